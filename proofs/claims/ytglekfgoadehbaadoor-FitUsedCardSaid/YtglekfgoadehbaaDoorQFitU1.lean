/- Texts of this claim, joined: VB, VO, VR, VA, VMa, VC, VE, VD, VF, VG, VH, VI, VJ, VL, VM, VN, VK. -/
import Derived.RangeFuncNested
import Derived.RangeFuncLeaves
import Derived.OrdersIn
import Derived.Below
import Derived.KernelRfl
import Derived.Deep.MidRow
import Derived.Deep.AppendSrc
import Derived.Deep.Upon
import Derived.MapKept
import Derived.Great.BuildSlice
import Derived.Great.FillDense
import Derived.Laws.Tables
import Derived.Laws.Cover3
section
set_option linter.unusedSimpArgs false
set_option linter.unusedVariables false
/- Values with rows taken in, and what of memory they stand for. -/
namespace Go.Proofs.YtglekfgoadehbaaDoor.V
open Go Go.RowKit
structure Tk where
  b : Nat
  fr : Nat
  en : Nat
  sz : Nat
  deriving DecidableEq, Repr, Inhabited
inductive Tok where
  | no | full | own (t : Tk)
  deriving DecidableEq, Repr, Inhabited
inductive AV where
  | undef
  | no
  | int (k : IntKind) (n : Int)
  | bool (b : Bool)
  | str (s : ByteArray)
  | nilp
  | ptr (b off : Nat)
  | iptr (x : AV) (off : Nat)
  | sl (xs : List AV) (t : Tok)
  | osl (b n c : Nat)
  | osx (b o n c : Nat)
  | clo (f : Nat) (first cap : List AV)
  | yld (l : Nat)
  | nilf
  | agg (cs : List AV)
  | tup (vs : List AV)
  | mp (b : Nat)
  | nilm
  deriving Inhabited
def AV.cells : AV → List AV
  | .agg cs => cs
  | .undef => []
  | .no => []
  | v => [v]
abbrev Im := Nat → Nat → Option Value
def Im.le (I J : Im) : Prop := ∀ b o v, I b o = some v → J b o = some v
theorem Im.le.refl (I : Im) : I.le I := fun _ _ _ h => h
theorem Im.le.trans {I J K : Im} (h : I.le J) (k : J.le K) : I.le K := fun b o v e => k b o v (h b o v e)
def tokOk (t : Tok) (a : Option Addr) (sz n c : Nat) : Prop :=
  match t with
  | .no => True
  | .full => c = n
  | .own k => k.sz = sz ∧ ∃ o, a = some ⟨k.b, o, none⟩ ∧ k.fr = o + n * sz ∧ k.en = o + c * sz
def Row (I : Im) (b o : Nat) (v : Value) : Prop := ∀ j u, v.cells[j]? = some u → I b (o + j) = some u
mutual
def Rep (I : Im) : AV → Value → Prop
  | .undef, _ => True
  | .no, v => v = Go.undef
  | .int k n, v => v = .int k n
  | .bool b, v => v = .bool b
  | .str s, v => v = .string s
  | .nilp, v => v = .pointer none
  | .ptr b off, v => v = .pointer (some ⟨b, off, none⟩)
  | .iptr x off, v => ∃ b o u, v = .pointer (some ⟨b, o + off, none⟩) ∧ Rep I x u ∧ Row I b o u
  | .sl xs t, v => ∃ a c sz, v = .slice a xs.length c ∧ xs.length ≤ c ∧ 0 < sz ∧ (xs = [] ∨ ∃ b o, a = some ⟨b, o, none⟩ ∧ RepR I sz xs b o) ∧ (a = none → c = 0) ∧ True ∧ tokOk t a sz xs.length c
  | .osl b n c, v => v = .slice (some ⟨b, 0, none⟩) n c ∧ n ≤ c
  | .osx b o n c, v => v = .slice (some ⟨b, o, none⟩) n c ∧ n ≤ c
  | .clo f fs cs, v => ∃ us vs, v = .func (.func f) us vs ∧ RepL I fs us.toList ∧ RepL I cs vs.toList
  | .yld l, v => v = .func (.yield l) #[] #[]
  | .nilf, v => v = .nilFunc
  | .agg cs, v => ∃ vs, v = .agg vs ∧ RepL I cs vs.toList
  | .tup cs, v => ∃ vs, v = .tuple vs ∧ RepL I cs vs.toList
  | .mp b, v => v = .map (some b)
  | .nilm, v => v = .map none
def RepL (I : Im) : List AV → List Value → Prop
  | [], [] => True
  | a :: aas, v :: vs => Rep I a v ∧ RepL I aas vs
  | _, _ => False
def RepR (I : Im) (sz : Nat) : List AV → Nat → Nat → Prop
  | [], _, _ => True
  | x :: xs, b, o => (∃ u, Rep I x u ∧ u.cells.size = sz ∧ Row I b o u) ∧ RepR I sz xs b (o + sz)
end
theorem Row.mono {I J : Im} (h : I.le J) {b o v} (r : Row I b o v) : Row J b o v := fun j u hu => h _ _ _ (r j u hu)
mutual
theorem Rep.mono {I J : Im} (h : I.le J) : ∀ (a : AV) (v : Value), Rep I a v → Rep J a v
  | .undef, _, _ => trivial
  | .no, _, r => r
  | .int _ _, _, r => r
  | .bool _, _, r => r
  | .str _, _, r => r
  | .nilp, _, r => r
  | .ptr _ _, _, r => r
  | .iptr x off, v, r => by
    simp only [Rep] at r ⊢
    obtain ⟨b, o, u, e, hx, hr⟩ := r
    exact ⟨b, o, u, e, Rep.mono h x u hx, hr.mono h⟩
  | .sl xs t, v, r => by
    simp only [Rep] at r ⊢
    obtain ⟨a, c, sz, e, h1, h2, h3, h4⟩ := r
    exact ⟨a, c, sz, e, h1, h2, h3.imp id (fun ⟨b, o, e', hr⟩ => ⟨b, o, e', RepR.mono h sz xs b o hr⟩), h4⟩
  | .osl _ _ _, _, r => by
    simp only [Rep] at r ⊢
    exact r
  | .osx _ _ _ _, _, r => by
    simp only [Rep] at r ⊢
    exact r
  | .clo f fs cs, v, r => by
    simp only [Rep] at r ⊢
    obtain ⟨us, vs, e, h1, h2⟩ := r
    exact ⟨us, vs, e, RepL.mono h fs _ h1, RepL.mono h cs _ h2⟩
  | .yld _, _, r => r
  | .nilf, _, r => r
  | .agg cs, v, r => by
    simp only [Rep] at r ⊢
    obtain ⟨vs, e, h1⟩ := r
    exact ⟨vs, e, RepL.mono h cs _ h1⟩
  | .tup cs, v, r => by
    simp only [Rep] at r ⊢
    obtain ⟨vs, e, h1⟩ := r
    exact ⟨vs, e, RepL.mono h cs _ h1⟩
  | .mp _, _, r => r
  | .nilm, _, r => r
theorem RepL.mono {I J : Im} (h : I.le J) : ∀ (aas : List AV) (vs : List Value), RepL I aas vs → RepL J aas vs
  | [], [], _ => trivial
  | a :: aas, v :: vs, r => ⟨Rep.mono h a v r.1, RepL.mono h aas vs r.2⟩
  | [], _ :: _, r => r.elim
  | _ :: _, [], r => r.elim
theorem RepR.mono {I J : Im} (h : I.le J) (sz : Nat) : ∀ (xs : List AV) (b o : Nat), RepR I sz xs b o → RepR J sz xs b o
  | [], _, _, _ => trivial
  | x :: xs, b, o, r => by
    simp only [RepR] at r ⊢
    obtain ⟨⟨u, h1, h2, h3⟩, h4⟩ := r
    exact ⟨⟨u, Rep.mono h x u h1, h2, h3.mono h⟩, RepR.mono h sz xs b (o + sz) h4⟩
end
theorem RepL.length {I : Im} : ∀ {aas : List AV} {vs : List Value}, RepL I aas vs → vs.length = aas.length
  | [], [], _ => rfl
  | _ :: aas, _ :: vs, r => by simp [RepL.length r.2]
  | [], _ :: _, r => r.elim
  | _ :: _, [], r => r.elim
theorem RepL.get {I : Im} : ∀ {aas : List AV} {vs : List Value}, RepL I aas vs → ∀ {i : Nat} {a : AV}, aas[i]? = some a → ∃ v, vs[i]? = some v ∧ Rep I a v
  | [], [], _, i, a, h => by simp at h
  | x :: aas, v :: vs, r, 0, a, h => by simp at h; subst h; exact ⟨v, rfl, r.1⟩
  | x :: aas, v :: vs, r, i + 1, a, h => by simpa using RepL.get r.2 (i := i) (by simpa using h)
  | [], _ :: _, r, _, _, _ => r.elim
  | _ :: _, [], r, _, _, _ => r.elim
theorem RepL.append {I : Im} : ∀ {aas : List AV} {vs : List Value} {bs : List AV} {us : List Value}, RepL I aas vs → RepL I bs us → RepL I (aas ++ bs) (vs ++ us)
  | [], [], _, _, _, k => k
  | _ :: _, _ :: _, _, _, r, k => ⟨r.1, RepL.append r.2 k⟩
  | [], _ :: _, _, _, r, _ => r.elim
  | _ :: _, [], _, _, r, _ => r.elim
theorem RepL.take {I : Im} : ∀ (n : Nat) {aas : List AV} {vs : List Value}, RepL I aas vs → RepL I (aas.take n) (vs.take n)
  | 0, _, _, _ => by simp [RepL]
  | n + 1, [], [], _ => by simp [RepL]
  | n + 1, _ :: _, _ :: _, r => ⟨r.1, RepL.take n r.2⟩
  | _ + 1, [], _ :: _, r => r.elim
  | _ + 1, _ :: _, [], r => r.elim
theorem RepL.drop {I : Im} : ∀ (n : Nat) {aas : List AV} {vs : List Value}, RepL I aas vs → RepL I (aas.drop n) (vs.drop n)
  | 0, _, _, r => by simpa using r
  | n + 1, [], [], _ => by simp [RepL]
  | n + 1, _ :: _, _ :: _, r => by simpa using RepL.drop n r.2
  | _ + 1, [], _ :: _, r => r.elim
  | _ + 1, _ :: _, [], r => r.elim
theorem RepL.set {I : Im} : ∀ {aas : List AV} {vs : List Value} (i : Nat) {a : AV} {v : Value}, RepL I aas vs → Rep I a v → RepL I (aas.set i a) (vs.set i v)
  | [], [], _, _, _, _, _ => by simp [RepL]
  | _ :: _, _ :: _, 0, _, _, r, k => ⟨k, r.2⟩
  | _ :: _, _ :: _, i + 1, _, _, r, k => ⟨r.1, RepL.set i r.2 k⟩
  | [], _ :: _, _, _, _, r, _ => r.elim
  | _ :: _, [], _, _, _, r, _ => r.elim
theorem Rep.cells {I : Im} {a : AV} {v : Value} (h : Rep I a v) (hu : a ≠ .undef) (hn : a ≠ .no) : RepL I a.cells v.cells.toList := by
  cases a <;> simp only [Rep] at h
  case undef => exact absurd rfl hu
  case no => exact absurd rfl hn
  case agg cs => obtain ⟨vs, rfl, hr⟩ := h; simpa [AV.cells, Value.cells] using hr
  case iptr x off => obtain ⟨b, o, u, rfl, hx, hr⟩ := h; simp only [AV.cells, Value.cells, RepL]; exact ⟨by simp only [Rep]; exact ⟨b, o, u, rfl, hx, hr⟩, trivial⟩
  case sl xs t => obtain ⟨a, c, sz, rfl, hr⟩ := h; simp only [AV.cells, Value.cells, RepL]; exact ⟨by simp only [Rep]; exact ⟨a, c, sz, rfl, hr⟩, trivial⟩
  case osl b n c => obtain ⟨rfl, hr⟩ := h; simp only [AV.cells, Value.cells, RepL]; exact ⟨by simp only [Rep]; exact ⟨trivial, hr⟩, trivial⟩
  case osx b o n c => obtain ⟨rfl, hr⟩ := h; simp only [AV.cells, Value.cells, RepL]; exact ⟨by simp only [Rep]; exact ⟨trivial, hr⟩, trivial⟩
  case clo => obtain ⟨us, vs, rfl, hr⟩ := h; simp only [AV.cells, Value.cells, RepL]; exact ⟨by simp only [Rep]; exact ⟨us, vs, rfl, hr⟩, trivial⟩
  case tup => obtain ⟨vs, rfl, hr⟩ := h; simp only [AV.cells, Value.cells, RepL]; exact ⟨by simp only [Rep]; exact ⟨vs, rfl, hr⟩, trivial⟩
  all_goals (subst h; simp [AV.cells, Value.cells, RepL, Rep])
theorem Rep.cells' {I : Im} {a : AV} {v : Value} (h : Rep I a v) (hp : 0 < a.cells.length) : RepL I a.cells v.cells.toList :=
  h.cells (fun e => by rw [e] at hp; simp [AV.cells] at hp) (fun e => by rw [e] at hp; simp [AV.cells] at hp)
theorem RepR.get {I : Im} {sz : Nat} : ∀ {xs : List AV} {b o : Nat}, RepR I sz xs b o → ∀ {i : Nat} {x : AV}, xs[i]? = some x → ∃ u, Rep I x u ∧ u.cells.size = sz ∧ Row I b (o + i * sz) u
  | [], _, _, _, i, x, h => by simp at h
  | y :: xs, b, o, r, 0, x, h => by
    simp only [RepR] at r
    obtain ⟨⟨u, h1, h2, h3⟩, _⟩ := r
    simp at h; subst h
    exact ⟨u, h1, h2, by simpa using h3⟩
  | y :: xs, b, o, r, i + 1, x, h => by
    simp only [RepR] at r
    obtain ⟨u, h1, h2, h3⟩ := RepR.get r.2 (i := i) (by simpa using h)
    exact ⟨u, h1, h2, by rw [show o + (i + 1) * sz = o + sz + i * sz by rw [Nat.add_mul]; omega]; exact h3⟩
theorem RepR.append {I : Im} {sz : Nat} : ∀ {xs ys : List AV} {b o : Nat}, RepR I sz xs b o → RepR I sz ys b (o + xs.length * sz) → RepR I sz (xs ++ ys) b o
  | [], ys, b, o, _, k => by simpa using k
  | x :: xs, ys, b, o, r, k => by
    simp only [RepR, List.cons_append] at r ⊢
    exact ⟨r.1, RepR.append r.2 (by rw [show o + sz + xs.length * sz = o + (x :: xs).length * sz by simp [Nat.add_mul]; omega]; exact k)⟩
theorem RepR.take {I : Im} {sz : Nat} : ∀ (n : Nat) {xs : List AV} {b o : Nat}, RepR I sz xs b o → RepR I sz (xs.take n) b o
  | 0, _, _, _, _ => by simp [RepR]
  | _ + 1, [], _, _, _ => by simp [RepR]
  | n + 1, _ :: _, _, _, r => by simp only [List.take_succ_cons, RepR] at r ⊢; exact ⟨r.1, RepR.take n r.2⟩
theorem RepR.drop {I : Im} {sz : Nat} : ∀ (n : Nat) {xs : List AV} {b o : Nat}, RepR I sz xs b o → RepR I sz (xs.drop n) b (o + n * sz)
  | 0, _, _, _, r => by simpa using r
  | _ + 1, [], _, _, _ => by simp [RepR]
  | n + 1, _ :: _, b, o, r => by
    simp only [List.drop_succ_cons, RepR] at r ⊢
    have := RepR.drop n r.2
    rwa [show o + sz + n * sz = o + (n + 1) * sz by rw [Nat.add_mul]; omega] at this
end Go.Proofs.YtglekfgoadehbaaDoor.V
end
section
set_option linter.unusedSimpArgs false
set_option linter.unusedVariables false
/- The operations over values with rows taken in; what they yield. -/
namespace Go.Proofs.YtglekfgoadehbaaDoor.V
open Go Go.RowKit
variable {P : Program}
inductive VE where
  | t (i : Nat)
  | c (a : AV)
  deriving Inhabited
structure Fr where
  t : Nat → AV
  d : List Nat
def VE.ev (x : VE) (fr : Fr) : AV := match x with | .t i => fr.t i | .c a => a
inductive AObj where
  | cells (cs : List AV)
  | raw (o : Obj)
  | minv (p : Array MapEntry → Nat → Prop)
structure St where
  objs : Nat → Option AObj
  live : Tk → Bool
def AV.isCell : AV → Bool
  | .agg _ | .tup _ | .undef | .no => false
  | _ => true
def AV.isUndef : AV → Bool | .undef => true | _ => false
def grab (cs : List AV) (off n : Nat) (ag : Bool) : Option AV :=
  if off + n ≤ cs.length then (if ag then some (.agg ((cs.drop off).take n)) else cs[off]?) else none
def vload (st : St) (a : AV) (n : Nat) (ag : Bool) : Option AV :=
  match a with
  | .ptr b off => match st.objs b with
    | some (.cells cs) => grab cs off n ag
    | _ => none
  | .iptr x off => if x.isUndef then none else grab x.cells off n ag
  | _ => none
theorem cell_of {w : World} {b : Nat} {vs : Array Value} {ty : TypeId} {fz : Nat × Nat} (h : w.heap[b]? = some (.cells vs ty fz)) (j : Nat) : w.cell? ⟨b, j, none⟩ = vs[j]? := by
  simp [World.cell?, h]
theorem run_loadVar_one (w : World) (ty : TypeId) (a : Addr) (v : Value) (d : TypeDesc) (hu : P.underlying ty = some d) (hd : d.isRow = false) (hc : w.cell? a = some v) : (loadVar ty a).run P w = .ok v w := by
  have hagg : (isAgg ty).run P w = .ok false w := by
    unfold isAgg
    rw [Sem.run_bind, run_underlying hu w]
    cases d <;> simp_all
  unfold loadVar
  rw [Sem.run_bind, hagg]
  simp [Result.andThen, go_sem, hc]
theorem load_of {I : Im} {W : World} {t : TypeId} {d : TypeDesc} {i : TypeInfo} (hu : P.underlying t = some d) (hi : P.info? t = some i) {b o : Nat} {cs : List AV} {vs : List Value}
    (hr : RepL I cs vs) (hm : ∀ j u, vs[j]? = some u → W.cell? ⟨b, o + j, none⟩ = some u) {off : Nat} {v : AV} (hg : grab cs off i.size d.isRow = some v) :
    ∃ u, (loadVar t ⟨b, o + off, none⟩).run P W = .ok u W ∧ Rep I v u := by
  unfold grab at hg
  split at hg
  case isFalse => cases hg
  case isTrue hle =>
    cases hd : d.isRow with
    | true =>
      rw [hd] at hg
      simp only [if_true, Option.some.injEq] at hg
      subst hg
      have hlen : ((vs.drop off).take i.size).length = i.size := by
        have := hr.length
        simp; omega
      refine ⟨_, run_loadVar_mid W b (o + off) t ((vs.drop off).take i.size) d (fun j u hj => ?_) hu hd (by rw [hi]; simp [hlen]), ?_⟩
      · rw [List.getElem?_take] at hj
        split at hj
        · rw [List.getElem?_drop] at hj
          rw [Nat.add_assoc]; exact hm _ _ hj
        · cases hj
      · simp only [Rep]
        exact ⟨_, rfl, by simpa using (hr.drop off).take i.size⟩
    | false =>
      rw [hd] at hg
      simp only [Bool.false_eq_true, if_false] at hg
      obtain ⟨u, hu', hru⟩ := hr.get hg
      exact ⟨u, run_loadVar_one W t _ u d hu hd (hm _ _ hu'), hru⟩
/-! ### Numbers, tests -/
def shiftV (op : BinOp) (k : IntKind) (a b : Int) : Int := match op with | .shl => k.wrap (a * 2 ^ b.toNat) | _ => a.fdiv (2 ^ b.toNat)
def vbin (op : BinOp) (x y : AV) : Option AV :=
  match op, x, y with
  | .add, .int k a, .int k' b => if k = k' then some (.int k (k.wrap (a + b))) else none
  | .sub, .int k a, .int k' b => if k = k' then some (.int k (k.wrap (a - b))) else none
  | .mul, .int k a, .int k' b => if k = k' then some (.int k (k.wrap (a * b))) else none
  | .quo, .int k a, .int k' b => if k = k' ∧ b ≠ 0 then some (.int k (k.wrap (a.tdiv b))) else none
  | .rem, .int k a, .int k' b => if k = k' ∧ b ≠ 0 then some (.int k (a.tmod b)) else none
  | .eql, .int k a, .int k' b => if k = k' then some (.bool (a == b)) else none
  | .neq, .int k a, .int k' b => if k = k' then some (.bool (a != b)) else none
  | .lss, .int k a, .int k' b => if k = k' then some (.bool (decide (a < b))) else none
  | .leq, .int k a, .int k' b => if k = k' then some (.bool (decide (a ≤ b))) else none
  | .gtr, .int k a, .int k' b => if k = k' then some (.bool (decide (b < a))) else none
  | .geq, .int k a, .int k' b => if k = k' then some (.bool (decide (b ≤ a))) else none
  | .shr, .int k a, .int _ b => if 0 ≤ b ∧ b < k.bits then some (.int k (shiftV .shr k a b)) else none
  | .shl, .int k a, .int _ b => if 0 ≤ b ∧ b < k.bits then some (.int k (shiftV .shl k a b)) else none
  | .eql, .str a, .str b => some (.bool (a.toList == b.toList))
  | .neq, .str a, .str b => some (.bool (!(a.toList == b.toList)))
  | .lss, .str a, .str b => some (.bool (Op.bytesLess a.toList b.toList))
  | .gtr, .str a, .str b => some (.bool (!(Op.bytesLess a.toList b.toList || a.toList == b.toList)))
  | _, _, _ => none
theorem ite_some {α : Type} {c : Prop} [Decidable c] {x v : α} (h : (if c then some x else none) = some v) : c ∧ x = v := by
  by_cases hc : c
  · rw [if_pos hc] at h; exact ⟨hc, Option.some.inj h⟩
  · rw [if_neg hc] at h; cases h
theorem shift_ok (W : World) {t : TypeId} {x y : Operand} (op : BinOp) (ho : op = .shl ∨ op = .shr) (k k' : IntKind) {a b : Int} (h0 : 0 ≤ b) (h1 : b < k.bits) :
    (do eqGuard op t x y (.int k a) (.int k' b); binOp op t (.int k a) (.int k' b) : Sem Value).run P W = .ok (.int k (shiftV op k a b)) W := by
  have hm : min b.toNat k.bits = b.toNat := by omega
  have hn : ¬ b < 0 := by omega
  rcases ho with rfl | rfl
  · simp only [eqGuard, binOp, Op.shift, hm, if_neg hn, shiftV]; simp [go_sem]
  · simp only [eqGuard, binOp, Op.shift, hm, if_neg hn, shiftV]; simp [go_sem]
theorem vbin_ok {I : Im} {W : World} {op : BinOp} {t : TypeId} {x y : Operand} {a b v : AV} {u w : Value} (ha : Rep I a u) (hb : Rep I b w) (h : vbin op a b = some v) :
    ∃ z, (do eqGuard op t x y u w; binOp op t u w : Sem Value).run P W = .ok z W ∧ Rep I v z := by
  unfold vbin at h
  split at h
  all_goals first
    | (obtain ⟨hk, rfl⟩ := ite_some h; simp only [Rep] at ha hb; subst ha hb; refine ⟨_, ?_, by simp only [Rep]; rfl⟩; simp_all [eqGuard, binOp, Op.intArith, Op.intDiv, Op.intCmp, go_sem]; done)
    | (obtain ⟨hk, rfl⟩ := ite_some h; simp only [Rep] at ha hb; subst ha hb; refine ⟨_, ?_, by simp only [Rep]; rfl⟩; obtain ⟨rfl, h0⟩ := hk; simp [eqGuard, binOp, Op.intArith, Op.intDiv, Op.intCmp, go_sem, h0]; done)
    | (simp only [Rep] at ha hb; subst ha hb; cases h; refine ⟨_, ?_, by simp only [Rep]; rfl⟩; simp [eqGuard, binOp, Op.stringOp, go_sem]; done)
    | (obtain ⟨⟨h0, h1⟩, rfl⟩ := ite_some h; simp only [Rep] at ha hb; subst ha hb; refine ⟨_, shift_ok W _ (by simp) _ _ h0 h1, by simp only [Rep]⟩)
    | (cases h; done)
def vun (op : UnOp) (x : AV) : Option AV :=
  match op, x with
  | .not, .bool b => some (.bool (!b))
  | .neg, .int k n => some (.int k (k.wrap (0 - n)))
  | _, _ => none
theorem vun_ok {I : Im} {W : World} {op : UnOp} {a v : AV} {u : Value} (ha : Rep I a u) (h : vun op a = some v) : ∃ z, (Op.unary op u).run P W = .ok z W ∧ Rep I v z := by
  unfold vun at h
  split at h
  all_goals first
    | (cases h; done)
    | (simp only [Rep] at ha; subst ha; cases h; refine ⟨_, ?_, by simp only [Rep]; rfl⟩; simp [Op.unary, Op.intArith, go_sem])
def vconv (k : IntKind) (x : AV) : Option AV := match x with | .int _ n => some (.int k (k.wrap n)) | _ => none
theorem vconv_ok {I : Im} {W : World} {s d : TypeId} {k : IntKind} {ds : TypeDesc} {a v : AV} {u : Value} (hs : P.underlying s = some ds) (hd : P.underlying d = some (.int k)) (ha : Rep I a u) (h : vconv k a = some v) :
    ∃ z, (convert s d u).run P W = .ok z W ∧ Rep I v z := by
  unfold vconv at h
  split at h
  · cases h
    simp only [Rep] at ha; subst ha
    refine ⟨_, ?_, by simp only [Rep]; rfl⟩
    simp [convert, run_underlying hs, run_underlying hd, Conv.intToInt, go_sem]
  · cases h
def vmin2 (x y : AV) : Option AV := match x, y with | .int k a, .int _ b => some (.int k (min a b)) | _, _ => none
def vmax2 (x y : AV) : Option AV := match x, y with | .int k a, .int _ b => some (.int k (max a b)) | _, _ => none
def vext (x : AV) (i : Nat) : Option AV := match x with | .tup vs => vs[i]? | _ => none
theorem vext_ok {I : Im} {W : World} {a v : AV} {u : Value} {i : Nat} (ha : Rep I a u) (h : vext a i = some v) : ∃ z, (Instr.extract u i).run P W = .ok z W ∧ Rep I v z := by
  unfold vext at h
  split at h
  · simp only [Rep] at ha
    obtain ⟨vs, rfl, hr⟩ := ha
    obtain ⟨z, hz, hrz⟩ := hr.get h
    refine ⟨z, ?_, hrz⟩
    have : vs[i]? = some z := by simpa using hz
    simp [Instr.extract, this, go_sem]
  · cases h
def vlen (x : AV) : Option AV := match x with
  | .sl xs _ => some (.int .i64 xs.length)
  | .osl _ n _ => some (.int .i64 n)
  | .osx _ _ n _ => some (.int .i64 n)
  | _ => none
theorem vlen_ok {I : Im} {W : World} {t ty e : TypeId} {a v : AV} {u : Value} (hu : P.underlying t = some (.slice e)) (ha : Rep I a u) (h : vlen a = some v) : ∃ z, (Builtin.len_ #[t] ty #[u]).run P W = .ok z W ∧ Rep I v z := by
  unfold vlen at h
  split at h
  · cases h
    simp only [Rep] at ha
    obtain ⟨a, c, sz, rfl, _⟩ := ha
    refine ⟨_, ?_, by simp only [Rep]; rfl⟩; simp [Builtin.len_, run_underlying hu, goInt, go_sem]
  · cases h
    simp only [Rep] at ha
    obtain ⟨rfl, _⟩ := ha
    refine ⟨_, ?_, by simp only [Rep]; rfl⟩; simp [Builtin.len_, run_underlying hu, goInt, go_sem]
  · cases h
    simp only [Rep] at ha
    obtain ⟨rfl, _⟩ := ha
    refine ⟨_, ?_, by simp only [Rep]; rfl⟩; simp [Builtin.len_, run_underlying hu, goInt, go_sem]
  · cases h
def vlens (x : AV) : Option AV := match x with | .str s => some (.int .i64 s.size) | _ => none
theorem vlens_ok {I : Im} {W : World} {t ty : TypeId} {a v : AV} {u : Value} (hu : P.underlying t = some .string) (ha : Rep I a u) (h : vlens a = some v) : ∃ z, (Builtin.len_ #[t] ty #[u]).run P W = .ok z W ∧ Rep I v z := by
  unfold vlens at h
  split at h
  · cases h
    simp only [Rep] at ha; subst ha
    refine ⟨_, ?_, by simp only [Rep]; rfl⟩; simp [Builtin.len_, run_underlying hu, goInt, go_sem]
  · cases h
/-! ### Places -/
def vfad (off : Nat) (x : AV) : Option AV := match x with
  | .ptr b o => some (.ptr b (o + off))
  | .iptr y o => some (.iptr y (o + off))
  | _ => none
theorem addr_add (b o n : Nat) : (⟨b, o, none⟩ : Addr).add n = ⟨b, o + n, none⟩ := by unfold Addr.add; split <;> simp_all
theorem vfad_addr {I : Im} {off : Nat} {a v : AV} {u : Value} (ha : Rep I a u) (h : vfad off a = some v) : ∃ ad, u = .pointer (some ad) ∧ Rep I v (.pointer (some (ad.add off))) := by
  unfold vfad at h
  split at h
  · cases h
    simp only [Rep] at ha ⊢; subst ha
    exact ⟨_, rfl, by rw [addr_add]⟩
  · cases h
    simp only [Rep] at ha ⊢
    obtain ⟨b, o, u, rfl, hx, hr⟩ := ha
    exact ⟨_, rfl, b, o, u, by rw [addr_add, Nat.add_assoc], hx, hr⟩
  · cases h
theorem vfad_ok {I : Im} {W : World} {s : TypeId} {fs : Array Field} {f : Nat} {fd : Field} {i : TypeInfo} (hs : P.underlying s = some (.struct fs)) (hf : fs[f]? = some fd) (hi : P.info? fd.type = some i) (h0 : i.size ≠ 0)
    {a v : AV} {u : Value} (ha : Rep I a u) (h : vfad fd.offset a = some v) : ∃ z, (Instr.fieldAt s u f).run P W = .ok z W ∧ Rep I v z := by
  obtain ⟨ad, rfl, hr⟩ := vfad_addr ha h
  refine ⟨_, ?_, hr⟩
  simp [Instr.fieldAt, run_underlying hs, hf, Instr.sureAddr, fieldPlace, sizeOf, typeInfo, hi, h0, go_sem]
def vfld (off n : Nat) (ag : Bool) (x : AV) : Option AV := match x with
  | .agg cs => grab cs off n ag
  | _ => none
theorem run_part {I : Im} {W : World} {t : TypeId} {d : TypeDesc} {i : TypeInfo} (hu : P.underlying t = some d) (hi : P.info? t = some i) {cs : List AV} {vs : Array Value} (hr : RepL I cs vs.toList) {off : Nat} {v : AV}
    (h : grab cs off i.size d.isRow = some v) : ∃ z, (part t vs off).run P W = .ok z W ∧ Rep I v z := by
  unfold grab at h
  split at h
  case isFalse => cases h
  case isTrue hle =>
    cases hd : d.isRow with
    | true =>
      rw [hd] at h
      simp only [if_true, Option.some.injEq] at h
      subst h
      have hagg : (isAgg t).run P W = .ok true W := by
        unfold isAgg
        rw [Sem.run_bind, run_underlying hu W]
        cases d <;> simp_all
      refine ⟨.agg (vs.extract off (off + i.size)), ?_, ?_⟩
      · simp [part, hagg, sizeOf, typeInfo, hi, go_sem]
      · simp only [Rep]
        refine ⟨_, rfl, ?_⟩
        have := (hr.drop off).take i.size
        simpa [Array.toList_extract, List.extract_eq_take_drop] using this
    | false =>
      rw [hd] at h
      simp only [Bool.false_eq_true, if_false] at h
      have hagg : (isAgg t).run P W = .ok false W := by
        unfold isAgg
        rw [Sem.run_bind, run_underlying hu W]
        cases d <;> simp_all
      obtain ⟨z, hz, hrz⟩ := hr.get h
      have hz' : vs[off]? = some z := by simpa using hz
      exact ⟨z, by simp [part, hagg, hz', go_sem], hrz⟩
theorem vfld_ok {I : Im} {W : World} {s : TypeId} {fs : Array Field} {f : Nat} {fd : Field} {d : TypeDesc} {i : TypeInfo} (hs : P.underlying s = some (.struct fs)) (hf : fs[f]? = some fd) (hu : P.underlying fd.type = some d) (hi : P.info? fd.type = some i)
    {a v : AV} {u : Value} (ha : Rep I a u) (h : vfld fd.offset i.size d.isRow a = some v) : ∃ z, (Instr.field s u f).run P W = .ok z W ∧ Rep I v z := by
  unfold vfld at h
  split at h
  · simp only [Rep] at ha
    obtain ⟨vs, rfl, hr⟩ := ha
    obtain ⟨z, hz, hrz⟩ := run_part (W := W) hu hi hr h
    refine ⟨z, ?_, hrz⟩; simp only [Instr.field, Sem.run_bind, run_underlying hs, Result.andThen_ok, hf, asAgg, Sem.run_pure]; exact hz
  · cases h
def viad (sz : Nat) (x i : AV) : Option AV := match x, i with
  | .sl xs _, .int _ n => if 0 ≤ n then (match xs[n.toNat]? with | some x => if x.cells.length = sz ∧ 0 < sz then some (.iptr x 0) else none | none => none) else none
  | .osl b m _, .int _ n => if 0 ≤ n ∧ n < m then some (.ptr b (n.toNat * sz)) else none
  | _, _ => none
theorem viad_ok {I : Im} {W : World} {t e : TypeId} {i : TypeInfo} (ht : P.underlying t = some (.slice e)) (hi : P.info? e = some i) {a b v : AV} {u w : Value} (ha : Rep I a u) (hb : Rep I b w) (h : viad i.size a b = some v) :
    ∃ z, (Instr.indexAt t u w).run P W = .ok z W ∧ Rep I v z := by
  unfold viad at h
  split at h
  · split at h
    · rename_i xs tk k n h0
      split at h
      · rename_i x hx
        obtain ⟨⟨hl, hp0⟩, rfl⟩ := ite_some h
        simp only [Rep] at ha hb
        subst hb
        obtain ⟨ad, c, sz, rfl, h1, h2, h3, h4, h5, h6⟩ := ha
        have hlt := (List.getElem?_eq_some_iff.1 hx).1
        rcases h3 with rfl | ⟨bb, o, rfl, hR⟩
        · simp at hlt
        · obtain ⟨u, hu1, hu2, hu3⟩ := hR.get hx
          have hsz : sz = i.size := by
            have := (hu1.cells' (by omega)).length
            rw [← hu2, ← hl, ← this]; simp
          subst hsz
          refine ⟨.pointer (some ((⟨bb, o, none⟩ : Addr).add (n.toNat * i.size))), ?_, ?_⟩
          · have : n < xs.length := by omega
            simp [Instr.indexAt, asIntOf, run_underlying ht, h0, this, sizeOf, typeInfo, hi, go_sem]
          · simp only [Rep]
            exact ⟨bb, o + n.toNat * i.size, u, by rw [addr_add]; rfl, hu1, hu3⟩
      · cases h
    · cases h
  · rename_i bb m cc k n
    obtain ⟨⟨h0, hlt⟩, rfl⟩ := ite_some h
    simp only [Rep] at ha hb
    subst hb
    obtain ⟨rfl, hc⟩ := ha
    refine ⟨.pointer (some ((⟨bb, 0, none⟩ : Addr).add (n.toNat * i.size))), ?_, ?_⟩
    · simp [Instr.indexAt, asIntOf, run_underlying ht, h0, hlt, sizeOf, typeInfo, hi, go_sem]
    · simp only [Rep]
      rw [addr_add, Nat.zero_add]
  · cases h
def viaa (len sz : Nat) (x i : AV) : Option AV := match i with
  | .int _ n => if 0 ≤ n ∧ n < len then vfad (n.toNat * sz) x else none
  | _ => none
theorem viaa_ok {I : Im} {W : World} {t e : TypeId} {len : Nat} {i : TypeInfo} (ht : P.underlying t = some (.array len e)) (hi : P.info? e = some i) {a b v : AV} {u w : Value} (ha : Rep I a u) (hb : Rep I b w) (h : viaa len i.size a b = some v) :
    ∃ z, (Instr.indexAt t u w).run P W = .ok z W ∧ Rep I v z := by
  unfold viaa at h
  split at h
  · split at h
    · rename_i k n hc
      obtain ⟨ad, rfl, hr⟩ := vfad_addr ha h
      simp only [Rep] at hb; subst hb
      refine ⟨_, ?_, hr⟩
      simp [Instr.indexAt, asIntOf, run_underlying ht, Instr.sureAddr, hc, sizeOf, typeInfo, hi, go_sem]
    · cases h
  · cases h
def vixa (len sz : Nat) (ag : Bool) (x i : AV) : Option AV := match x, i with
  | .agg cs, .int _ n => if 0 ≤ n ∧ n < len then grab cs (n.toNat * sz) sz ag else none
  | _, _ => none
theorem vixa_ok {I : Im} {W : World} {t e : TypeId} {len : Nat} {d : TypeDesc} {i : TypeInfo} (ht : P.underlying t = some (.array len e)) (hu : P.underlying e = some d) (hi : P.info? e = some i) {a b v : AV} {u w : Value} (ha : Rep I a u) (hb : Rep I b w)
    (h : vixa len i.size d.isRow a b = some v) : ∃ z, (Instr.index t u w).run P W = .ok z W ∧ Rep I v z := by
  unfold vixa at h
  split at h
  · split at h
    · rename_i cs k n hc
      simp only [Rep] at ha hb; subst hb
      obtain ⟨vs, rfl, hr⟩ := ha
      obtain ⟨z, hz, hrz⟩ := run_part (W := W) hu hi hr h
      have hsz : (sizeOf e).run P W = .ok i.size W := by simp [sizeOf, typeInfo, hi, go_sem]
      refine ⟨z, ?_, hrz⟩
      simp only [Instr.index, asIntOf, Sem.run_bind, run_underlying ht, Result.andThen_ok, Sem.run_pure]
      rw [if_pos hc]
      simp only [Sem.run_bind, hsz, Result.andThen_ok]
      exact hz
    · cases h
  · cases h
def vixs (x i : AV) : Option AV := match x, i with
  | .str s, .int _ n => if 0 ≤ n then (s[n.toNat]?).map (fun b => .int .u8 b.toNat) else none
  | _, _ => none
theorem vixs_ok {I : Im} {W : World} {t : TypeId} (ht : P.underlying t = some .string) {a b v : AV} {u w : Value} (ha : Rep I a u) (hb : Rep I b w) (h : vixs a b = some v) : ∃ z, (Instr.index t u w).run P W = .ok z W ∧ Rep I v z := by
  unfold vixs at h
  split at h
  · split at h
    · rename_i s k n hc
      simp only [Rep] at ha hb; subst ha hb
      cases hx : s[n.toNat]? with
      | none => rw [hx] at h; cases h
      | some x =>
        rw [hx] at h; cases h
        refine ⟨_, ?_, by simp only [Rep]; rfl⟩; simp [Instr.index, asIntOf, run_underlying ht, hc, hx, go_sem]
    · cases h
  · cases h
def vnchk (x : AV) : Option AV := match x with
  | .ptr b o => some (.ptr b o)
  | .iptr y o => some (.iptr y o)
  | .clo f a c => some (.clo f a c)
  | .yld l => some (.yld l)
  | _ => none
theorem vnchk_ok {I : Im} {W : World} {a v : AV} {u : Value} (ha : Rep I a u) (h : vnchk a = some v) :
    v = a ∧ ∀ (ρ : Operand → Value) (o : Oper) (x : Operand), o.op = .nilCheck x → ρ x = u → (execOp ρ o).run P W = .ok (.value u) W := by
  unfold vnchk at h
  split at h
  · cases h; simp only [Rep] at ha; subst ha; exact ⟨rfl, fun ρ o x ho hx => by simp [execOp, ho, hx, go_sem]⟩
  · cases h; simp only [Rep] at ha; obtain ⟨b, o, u, rfl, _⟩ := ha; exact ⟨rfl, fun ρ o x ho hx => by simp [execOp, ho, hx, go_sem]⟩
  · cases h; simp only [Rep] at ha; obtain ⟨us, vs, rfl, _⟩ := ha; exact ⟨rfl, fun ρ o x ho hx => by simp [execOp, ho, hx, go_sem]⟩
  · cases h; simp only [Rep] at ha; subst ha; exact ⟨rfl, fun ρ o x ho hx => by simp [execOp, ho, hx, go_sem]⟩
  · cases h
end Go.Proofs.YtglekfgoadehbaaDoor.V
end
section
set_option linter.unusedSimpArgs false
set_option linter.unusedVariables false
/- What a world is to a state; memory made and written. -/
namespace Go.Proofs.YtglekfgoadehbaaDoor.V
open Go Go.RowKit
variable {P : Program}
structure Upd (X : Nat → Prop) (w w' : World) : Prop where
  os : w'.os = w.os
  tape : w'.tape = w.tape
  output : w'.output = w.output
  size : w.heap.size ≤ w'.heap.size
  same : ∀ k, k < w.heap.size → ¬ X k → w'.heap[k]? = w.heap[k]?
theorem Upd.refl (X : Nat → Prop) (w : World) : Upd X w w := ⟨rfl, rfl, rfl, Nat.le_refl _, fun _ _ _ => rfl⟩
theorem Upd.trans {X : Nat → Prop} {a b c : World} (h : Upd X a b) (k : Upd (fun j => X j ∨ a.heap.size ≤ j) b c) : Upd X a c :=
  ⟨k.os.trans h.os, k.tape.trans h.tape, k.output.trans h.output, Nat.le_trans h.size k.size, fun i hi hx => (k.same i (Nat.lt_of_lt_of_le hi h.size) (fun e => e.elim hx (fun e => by omega))).trans (h.same i hi hx)⟩
theorem Upd.mono {X Y : Nat → Prop} {a b : World} (h : Upd X a b) (hx : ∀ k, k < a.heap.size → X k → Y k) : Upd Y a b :=
  ⟨h.os, h.tape, h.output, h.size, fun i hi hy => h.same i hi (fun hk => hy (hx i hi hk))⟩
theorem Upd.below {B : Nat} {w w' : World} (h : Upd (fun _ => False) w w') (hB : B ≤ w.heap.size) : Below B w w' :=
  ⟨h.os, h.tape, h.output, h.size, fun k hk => h.same k (by omega) (fun e => e)⟩
def St.own (st : St) (b : Nat) : Prop := (∃ o, st.objs b = some o) ∨ ∃ k, st.live k = true ∧ k.b = b
def St.ins (st : St) (b : Nat) (o : AObj) : St := { st with objs := fun i => if i = b then some o else st.objs i }
def St.has (st : St) (sz : Nat) (t : Tok) : Bool := match t with | .no => false | .full => true | .own k => st.live k && k.sz == sz
def St.kill (st : St) (t : Tok) : St := match t with | .own k => { st with live := fun j => if j = k then false else st.live j } | _ => st
def St.add (st : St) (t : Tok) : St := match t with | .own k => { st with live := fun j => if j = k then true else st.live j } | _ => st
def globs : Nat → Option AV := fun g => match g with | 0 => some (.agg [.int .i64 1125899906842624, .int .i64 1125899906842624]) | _ => none
def GOk (I : Im) : Prop := ∀ g x, globs g = some x → ∃ u, Rep I x u ∧ Row I g 0 u
theorem GOk.mono {I J : Im} (h : GOk I) (k : I.le J) : GOk J := fun g x e => by
  obtain ⟨u, h1, h2⟩ := h g x e
  exact ⟨u, Rep.mono k x u h1, h2.mono k⟩
structure Base where
  X : Nat → Prop
  W : World
  I : Im
  glob : GOk I
structure Rel (B : Base) (I : Im) (st : St) (W : World) : Prop where
  cells : ∀ b cs, st.objs b = some (.cells cs) → ∃ vs ty, W.heap[b]? = some (.cells vs ty (0, 0)) ∧ RepL I cs vs.toList
  raw : ∀ b o, st.objs b = some (.raw o) → W.heap[b]? = some o
  minv : ∀ b p, st.objs b = some (.minv p) → ∃ es clk, W.heap[b]? = some (.map es clk) ∧ p es clk
  imm : ∀ b o v, I b o = some v → W.cell? ⟨b, o, none⟩ = some v
  sep : ∀ b x, st.objs b = some x → ∀ o, I b o = none
  tk : ∀ k, st.live k = true → ∃ arr ty, W.heap[k.b]? = some (.cells arr ty (0, 0)) ∧ k.en ≤ arr.size ∧ (∀ o, k.fr ≤ o → I k.b o = none) ∧ st.objs k.b = none
  tk1 : ∀ k j, st.live k = true → st.live j = true → k.b = j.b → k = j
  upd : Upd B.X B.W W
  own : ∀ b, st.own b → B.X b ∨ B.W.heap.size ≤ b
  le : B.I.le I
  new : ∀ b o, I b o ≠ none → B.I b o ≠ none ∨ B.X b ∨ B.W.heap.size ≤ b
section
variable {B : Base} {I : Im} {st : St} {W : World}
theorem Rel.gok (h : Rel B I st W) : GOk I := B.glob.mono h.le
theorem Rel.objs_lt (h : Rel B I st W) {b : Nat} {o : AObj} (hb : st.objs b = some o) : b < W.heap.size := by
  cases o with
  | cells cs => obtain ⟨vs, ty, e, _⟩ := h.cells b cs hb; exact (Array.getElem?_eq_some_iff.1 e).1
  | raw o => exact (Array.getElem?_eq_some_iff.1 (h.raw b o hb)).1
  | minv p => obtain ⟨_, _, e, _⟩ := h.minv b p hb; exact (Array.getElem?_eq_some_iff.1 e).1
theorem Rel.imm_lt (h : Rel B I st W) {b o : Nat} {v : Value} (hb : I b o = some v) : b < W.heap.size := by
  have := h.imm b o v hb
  unfold World.cell? at this
  cases hx : W.heap[b]? with
  | none => simp [hx] at this
  | some x => exact (Array.getElem?_eq_some_iff.1 hx).1
theorem Rel.live_lt (h : Rel B I st W) {k : Tk} (hk : st.live k = true) : k.b < W.heap.size := by
  obtain ⟨arr, ty, e, _⟩ := h.tk k hk; exact (Array.getElem?_eq_some_iff.1 e).1
theorem Rel.fresh (h : Rel B I st W) {b : Nat} (hb : W.heap.size ≤ b) : st.objs b = none := by
  cases ho : st.objs b with
  | none => rfl
  | some o => have := h.objs_lt ho; omega
theorem Rel.fresh_live (h : Rel B I st W) {k : Tk} (hb : W.heap.size ≤ k.b) : st.live k = false := by
  cases ho : st.live k with
  | false => rfl
  | true => have := h.live_lt ho; omega
theorem Rel.immNone (h : Rel B I st W) {b : Nat} (hb : W.heap.size ≤ b) (o : Nat) : I b o = none := by
  cases ho : I b o with
  | none => rfl
  | some v => have := h.imm_lt ho; omega
theorem Rel.step (h : Rel B I st W) {W' : World} {Y : Nat → Prop} (hu : Upd Y W W') (hY : ∀ k, Y k → B.W.heap.size ≤ k ∨ B.X k) (h1 : ∀ b, st.own b → ¬ Y b) (h2 : ∀ b o, I b o ≠ none → ¬ Y b) : Rel B I st W' where
  cells b cs hb := by
    obtain ⟨vs, ty, e, r⟩ := h.cells b cs hb
    exact ⟨vs, ty, (hu.same b (h.objs_lt hb) (h1 b (.inl ⟨_, hb⟩))).trans e, r⟩
  raw b o hb := (hu.same b (h.objs_lt hb) (h1 b (.inl ⟨_, hb⟩))).trans (h.raw b o hb)
  minv b p hb := by obtain ⟨es, clk, e, hp⟩ := h.minv b p hb; exact ⟨es, clk, (hu.same b (h.objs_lt hb) (h1 b (.inl ⟨_, hb⟩))).trans e, hp⟩
  imm b o v hv := by
    have := h.imm b o v hv
    unfold World.cell? at this ⊢
    rw [hu.same b (h.imm_lt hv) (h2 b o (by rw [hv]; simp))]
    exact this
  sep := h.sep
  tk k hk := by
    obtain ⟨arr, ty, e, r⟩ := h.tk k hk
    exact ⟨arr, ty, (hu.same k.b (h.live_lt hk) (h1 _ (.inr ⟨k, hk, rfl⟩))).trans e, r⟩
  tk1 := h.tk1
  upd := h.upd.trans (hu.mono fun k _ hk => (hY k hk).elim .inr .inl)
  own := h.own
  le := h.le
  new := h.new
theorem Rel.drew (h : Rel B I st W) : Rel B I st W.drew :=
  h.step (Y := fun _ => False) ⟨rfl, rfl, rfl, Nat.le_refl _, fun _ _ _ => rfl⟩ (fun _ e => e.elim) (fun _ _ e => e) (fun _ _ _ e => e)
theorem upd_alloc (w : World) (o : Obj) (X : Nat → Prop) : Upd X w (w.alloc o) := ⟨rfl, rfl, rfl, by simp, fun k hk _ => Below.heap_alloc _ _ _ hk⟩
theorem heap_new (w : World) (o : Obj) : (w.alloc o).heap[w.heap.size]? = some o := World.alloc_heap_new w o
theorem Rel.alloc_any (h : Rel B I st W) (o : Obj) : Rel B I st (W.alloc o) :=
  h.step (Y := fun _ => False) (upd_alloc _ _ _) (fun _ e => e.elim) (fun _ _ e => e) (fun _ _ _ e => e)
theorem Rel.ins_cells (h : Rel B I st W) {b : Nat} {cs : List AV} {vs : Array Value} {ty : TypeId} (hb : W.heap[b]? = some (.cells vs ty (0, 0))) (hr : RepL I cs vs.toList)
    (hI : ∀ o, I b o = none) (hl : ∀ k, st.live k = true → k.b ≠ b) (ho : B.X b ∨ B.W.heap.size ≤ b) : Rel B I (st.ins b (.cells cs)) W where
  cells b' cs' hb' := by
    simp only [St.ins] at hb'
    split at hb'
    · rename_i e; subst e; cases hb'; exact ⟨vs, ty, hb, hr⟩
    · exact h.cells b' cs' hb'
  raw b' o hb' := by
    simp only [St.ins] at hb'
    split at hb'
    · cases hb'
    · exact h.raw b' o hb'
  minv b' o hb' := by
    simp only [St.ins] at hb'
    split at hb'
    · cases hb'
    · exact h.minv b' o hb'
  imm := h.imm
  sep b' x hb' := by
    simp only [St.ins] at hb'
    split at hb'
    · rename_i e; subst e; exact hI
    · exact h.sep b' x hb'
  tk k hk := by
    obtain ⟨arr, ty', e, r1, r2, r3⟩ := h.tk k hk
    exact ⟨arr, ty', e, r1, r2, by simp only [St.ins]; rw [if_neg (hl k hk)]; exact r3⟩
  tk1 := h.tk1
  upd := h.upd
  own b' hb' := by
    rcases hb' with ⟨o, hb'⟩ | ⟨k, hk, e⟩
    · simp only [St.ins] at hb'
      split at hb'
      · rename_i e; subst e; exact ho
      · exact h.own b' (.inl ⟨o, hb'⟩)
    · exact h.own b' (.inr ⟨k, hk, e⟩)
  le := h.le
  new := h.new
theorem Rel.ins_raw (h : Rel B I st W) {b : Nat} {x : Obj} (hb : W.heap[b]? = some x)
    (hI : ∀ o, I b o = none) (hl : ∀ k, st.live k = true → k.b ≠ b) (ho : B.X b ∨ B.W.heap.size ≤ b) : Rel B I (st.ins b (.raw x)) W where
  cells b' cs' hb' := by
    simp only [St.ins] at hb'
    split at hb'
    · cases hb'
    · exact h.cells b' cs' hb'
  raw b' o hb' := by
    simp only [St.ins] at hb'
    split at hb'
    · rename_i e; subst e; cases hb'; exact hb
    · exact h.raw b' o hb'
  minv b' o hb' := by
    simp only [St.ins] at hb'
    split at hb'
    · cases hb'
    · exact h.minv b' o hb'
  imm := h.imm
  sep b' x hb' := by
    simp only [St.ins] at hb'
    split at hb'
    · rename_i e; subst e; exact hI
    · exact h.sep b' x hb'
  tk k hk := by
    obtain ⟨arr, ty', e, r1, r2, r3⟩ := h.tk k hk
    exact ⟨arr, ty', e, r1, r2, by simp only [St.ins]; rw [if_neg (hl k hk)]; exact r3⟩
  tk1 := h.tk1
  upd := h.upd
  own b' hb' := by
    rcases hb' with ⟨o, hb'⟩ | ⟨k, hk, e⟩
    · simp only [St.ins] at hb'
      split at hb'
      · rename_i e; subst e; exact ho
      · exact h.own b' (.inl ⟨o, hb'⟩)
    · exact h.own b' (.inr ⟨k, hk, e⟩)
  le := h.le
  new := h.new
theorem Rel.alloc (h : Rel B I st W) {cs : List AV} {vs : Array Value} (ty : TypeId) (hr : RepL I cs vs.toList) :
    st.objs W.heap.size = none ∧ Rel B I (st.ins W.heap.size (.cells cs)) (W.alloc (.cells vs ty)) :=
  ⟨h.fresh (Nat.le_refl _), (h.alloc_any _).ins_cells (heap_new _ _) hr (h.immNone (Nat.le_refl _)) (fun k hk e => by have := h.live_lt hk; omega) (.inr h.upd.size)⟩
structure St.le (s t : St) : Prop where
  objs : ∀ b o, s.objs b = some o → t.objs b = some o
  live : ∀ k, s.live k = true → t.live k = true
theorem Rel.weaken (h : Rel B I st W) {s : St} (hs : s.le st) : Rel B I s W where
  cells b cs hb := h.cells b cs (hs.objs _ _ hb)
  raw b o hb := h.raw b o (hs.objs _ _ hb)
  minv b o hb := h.minv b o (hs.objs _ _ hb)
  imm := h.imm
  sep b x hb := h.sep b x (hs.objs _ _ hb)
  tk k hk := by
    obtain ⟨arr, ty, e, r1, r2, r3⟩ := h.tk k (hs.live k hk)
    refine ⟨arr, ty, e, r1, r2, ?_⟩
    cases ho : s.objs k.b with
    | none => rfl
    | some o => rw [hs.objs _ _ ho] at r3; cases r3
  tk1 k j hk hj := h.tk1 k j (hs.live _ hk) (hs.live _ hj)
  upd := h.upd
  own b hb := h.own b (hb.imp (fun ⟨o, e⟩ => ⟨o, hs.objs _ _ e⟩) (fun ⟨k, e, e'⟩ => ⟨k, hs.live _ e, e'⟩))
  le := h.le
  new := h.new
theorem setCells_same (b : Nat) : ∀ (us : List Value) (o : Nat) (w : World), (w.setCells b o us).os = w.os ∧ (w.setCells b o us).tape = w.tape ∧ (w.setCells b o us).output = w.output ∧ (w.setCells b o us).heap.size = w.heap.size ∧
    ∀ k, k ≠ b → (w.setCells b o us).heap[k]? = w.heap[k]?
  | [], _, _ => ⟨rfl, rfl, rfl, rfl, fun _ _ => rfl⟩
  | v :: r, o, w => by
    obtain ⟨h1, h2, h3, h4, h5⟩ := setCells_same b r (o + 1) (w.setCell ⟨b, o, none⟩ v)
    simp only [World.setCells]
    exact ⟨h1, h2, h3, by rw [h4]; simp [World.setCell], fun k hk => by rw [h5 k hk]; exact Below.heap_setCell w _ v k hk⟩
theorem setCells_at (b : Nat) : ∀ (us : List Value) (o : Nat) (w : World) (vs : Array Value) (ty : TypeId) (fz : Nat × Nat), w.heap[b]? = some (.cells vs ty fz) → o + us.length ≤ vs.size →
    (w.setCells b o us).heap[b]? = some (.cells (vs.toList.take o ++ us ++ vs.toList.drop (o + us.length)).toArray ty fz)
  | [], o, w, vs, ty, fz, h, _ => by simpa [World.setCells] using h
  | v :: r, o, w, vs, ty, fz, h, hl => by
    simp only [World.setCells]
    have h1 : (w.setCell ⟨b, o, none⟩ v).heap[b]? = some (.cells (vs.setIfInBounds o v) ty fz) := by
      simp [World.setCell, Array.getElem?_modify, h]
    rw [setCells_at b r (o + 1) _ _ ty fz h1 (by simp at hl ⊢; omega)]
    simp at hl
    have hlt : o < vs.toList.length := by simp; omega
    have e1 : (vs.toList.set o v).take (o + 1) = vs.toList.take o ++ [v] := by
      rw [List.take_add_one, List.take_set_of_le (Nat.le_refl _), List.getElem?_set_self hlt]; rfl
    have e2 : (vs.toList.set o v).drop (o + 1 + r.length) = vs.toList.drop (o + (v :: r).length) := by
      rw [List.drop_set_of_lt (by omega)]; congr 1; simp; omega
    simp only [Array.toList_setIfInBounds, e1, e2]
    simp
theorem Rel.store (h : Rel B I st W) {b : Nat} {cs : List AV} (hb : st.objs b = some (.cells cs)) {off : Nat} {ys : List AV} {us : List Value} (hy : RepL I ys us) (hle : off + ys.length ≤ cs.length) :
    Rel B I (st.ins b (.cells (cs.take off ++ ys ++ cs.drop (off + ys.length)))) (W.setCells b off us) := by
  obtain ⟨vs, ty, hv, hr⟩ := h.cells b cs hb
  have hlu := hy.length
  have hlv := hr.length
  have hW := setCells_at b us off W vs ty (0, 0) hv (by simp at hlv; omega)
  obtain ⟨s1, s2, s3, s4, s5⟩ := setCells_same b us off W
  have hI := h.sep b _ hb
  have hlive : ∀ k, st.live k = true → k.b ≠ b := fun k hk e => by
    obtain ⟨_, _, _, _, _, r3⟩ := h.tk k hk
    rw [e, hb] at r3; cases r3
  have hrel : RepL I (cs.take off ++ ys ++ cs.drop (off + ys.length)) (vs.toList.take off ++ us ++ vs.toList.drop (off + us.length)) := by
    rw [hlu]; exact ((hr.take off).append hy).append (hr.drop _)
  exact {
    cells := fun b' cs' hb' => by
      simp only [St.ins] at hb'
      split at hb'
      · rename_i e; subst e; cases hb'; exact ⟨_, ty, hW, by simpa using hrel⟩
      · rename_i e; obtain ⟨vs', ty', e', r⟩ := h.cells b' cs' hb'; exact ⟨vs', ty', (s5 b' e).trans e', r⟩
    raw := fun b' o hb' => by
      simp only [St.ins] at hb'
      split at hb'
      · cases hb'
      · rename_i e; exact (s5 b' e).trans (h.raw b' o hb')
    minv := fun b' o hb' => by
      simp only [St.ins] at hb'
      split at hb'
      · cases hb'
      · rename_i e; obtain ⟨es, clk, e', hp⟩ := h.minv b' o hb'; exact ⟨es, clk, (s5 b' e).trans e', hp⟩
    imm := fun b' o v hv' => by
      have := h.imm b' o v hv'
      have hne : b' ≠ b := fun e => by rw [e, hI] at hv'; cases hv'
      unfold World.cell? at this ⊢
      rw [s5 b' hne]; exact this
    sep := fun b' x hb' => by
      simp only [St.ins] at hb'
      split at hb'
      · rename_i e; subst e; exact hI
      · exact h.sep b' x hb'
    tk := fun k hk => by
      obtain ⟨arr, ty', e, r1, r2, r3⟩ := h.tk k hk
      exact ⟨arr, ty', (s5 _ (hlive k hk)).trans e, r1, r2, by simp only [St.ins]; rw [if_neg (hlive k hk)]; exact r3⟩
    tk1 := h.tk1
    upd := h.upd.trans ⟨s1, s2, s3, by omega, fun k _ hk => s5 k (fun e => hk (by subst e; exact (h.own k (.inl ⟨_, hb⟩)).elim .inl (fun h' => .inr h')))⟩
    own := fun b' hb' => by
      rcases hb' with ⟨o, hb'⟩ | ⟨k, hk, e⟩
      · simp only [St.ins] at hb'
        split at hb'
        · rename_i e; subst e; exact h.own b' (.inl ⟨_, hb⟩)
        · exact h.own b' (.inl ⟨o, hb'⟩)
      · exact h.own b' (.inr ⟨k, hk, e⟩)
    le := h.le
    new := h.new }
def Im.row (I : Im) (b lo hi : Nat) (vs : Array Value) : Im := fun b' o => if b' = b ∧ lo ≤ o ∧ o < hi then vs[o]? else I b' o
theorem Rel.know (h : Rel B I st W) {b lo hi : Nat} {vs : Array Value} {ty : TypeId} {fz : Nat × Nat} (hb : W.heap[b]? = some (.cells vs ty fz)) (hno : st.objs b = none) (hI : ∀ o, lo ≤ o → o < hi → I b o = none)
    (ht : ∀ k, st.live k = true → k.b = b → hi ≤ k.fr) (ho : B.X b ∨ B.W.heap.size ≤ b) : I.le (I.row b lo hi vs) ∧ Rel B (I.row b lo hi vs) st W := by
  have hle : I.le (I.row b lo hi vs) := fun b' o v hv => by
    unfold Im.row
    rw [if_neg (fun e => by obtain ⟨e1, e2, e3⟩ := e; subst e1; rw [hI o e2 e3] at hv; cases hv)]
    exact hv
  refine ⟨hle, ?_⟩
  exact {
    cells := fun b' cs hb' => by obtain ⟨vs', ty', e, r⟩ := h.cells b' cs hb'; exact ⟨vs', ty', e, r.mono hle⟩
    raw := h.raw
    minv := h.minv
    imm := fun b' o v hv => by
      unfold Im.row at hv
      split at hv
      · rename_i e; obtain ⟨rfl, _, _⟩ := e; rw [cell_of hb]; exact hv
      · exact h.imm b' o v hv
    sep := fun b' x hx o => by
      unfold Im.row
      rw [if_neg (fun e => by obtain ⟨e1, _⟩ := e; subst e1; rw [hno] at hx; cases hx)]
      exact h.sep b' x hx o
    tk := fun k hk => by
      obtain ⟨arr, ty', e, r1, r2, r3⟩ := h.tk k hk
      refine ⟨arr, ty', e, r1, fun o ho' => ?_, r3⟩
      unfold Im.row
      rw [if_neg (fun e' => by obtain ⟨e1, e2, e3⟩ := e'; have := ht k hk e1; omega)]
      exact r2 o ho'
    tk1 := h.tk1
    upd := h.upd
    own := h.own
    le := h.le.trans hle
    new := fun b' o hne => by
      unfold Im.row at hne
      split at hne
      · rename_i e; exact .inr (e.1 ▸ ho)
      · exact h.new b' o hne }
theorem Rel.newRow (h : Rel B I st W) (vs : Array Value) (ty : TypeId) (n : Nat) : I.le (I.row W.heap.size 0 n vs) ∧ Rel B (I.row W.heap.size 0 n vs) st (W.alloc (.cells vs ty)) :=
  (h.alloc_any _).know (heap_new _ _) (h.fresh (Nat.le_refl _)) (fun o _ _ => h.immNone (Nat.le_refl _) o) (fun k hk e => by have := h.live_lt hk; omega) (.inr h.upd.size)
theorem Rel.kill (h : Rel B I st W) (t : Tok) : Rel B I (st.kill t) W :=
  h.weaken (by
    cases t with
    | no => exact ⟨fun _ _ e => e, fun _ e => e⟩
    | full => exact ⟨fun _ _ e => e, fun _ e => e⟩
    | own j => exact ⟨fun _ _ e => e, fun k hk => by simp only [St.kill] at hk; split at hk; cases hk; exact hk⟩)
theorem Rel.addTk (h : Rel B I st W) {k : Tk} {arr : Array Value} {ty : TypeId} (hb : W.heap[k.b]? = some (.cells arr ty (0, 0))) (hen : k.en ≤ arr.size) (hI : ∀ o, k.fr ≤ o → I k.b o = none) (hno : st.objs k.b = none)
    (hone : ∀ j, st.live j = true → j.b ≠ k.b) (ho : B.X k.b ∨ B.W.heap.size ≤ k.b) : Rel B I (st.add (.own k)) W where
  cells := h.cells
  raw := h.raw
  minv := h.minv
  imm := h.imm
  sep := h.sep
  tk j hj := by
    simp only [St.add] at hj
    split at hj
    · rename_i e; subst e; exact ⟨arr, ty, hb, hen, hI, hno⟩
    · exact h.tk j hj
  tk1 i j hi hj e := by
    simp only [St.add] at hi hj
    split at hi <;> split at hj
    · simp_all
    · rename_i e1 _; subst e1; exact absurd e.symm (hone j hj)
    · rename_i _ e1; subst e1; exact absurd e (hone i hi)
    · exact h.tk1 i j hi hj e
  upd := h.upd
  own b hb' := by
    rcases hb' with ⟨o, hb'⟩ | ⟨j, hj, e⟩
    · exact h.own b (.inl ⟨o, hb'⟩)
    · simp only [St.add] at hj
      split at hj
      · rename_i e1; subst e1; subst e; exact ho
      · exact h.own b (.inr ⟨j, hj, e⟩)
  le := h.le
  new := h.new
end
end Go.Proofs.YtglekfgoadehbaaDoor.V
end
section
set_option linter.unusedSimpArgs false
set_option linter.unusedVariables false
/- Rows made, and appended to. -/
namespace Go.Proofs.YtglekfgoadehbaaDoor.V
open Go Go.RowKit
variable {P : Program}
theorem isCell_one {I : Im} {a : AV} {v : Value} (h : Rep I a v) (hc : a.isCell = true) : v.oneCell' = true := by
  cases a <;> simp only [Rep] at h <;> simp only [AV.isCell] at hc <;> first
    | (cases hc; done)
    | (subst h; rfl)
    | (obtain ⟨_, _, _, rfl, _⟩ := h; rfl)
    | (obtain ⟨_, _, rfl, _⟩ := h; rfl)
    | (obtain ⟨rfl, _⟩ := h; rfl)
theorem all_one {I : Im} : ∀ {aas : List AV} {vs : List Value}, RepL I aas vs → aas.all AV.isCell = true → ∀ v ∈ vs, v.oneCell' = true
  | [], [], _, _ => by simp
  | a :: aas, v :: vs, r, h => by
    simp only [List.all_cons, Bool.and_eq_true] at h
    intro u hu
    rcases List.mem_cons.1 hu with rfl | hu
    · exact isCell_one r.1 h.1
    · exact all_one r.2 h.2 u hu
  | [], _ :: _, r, _ => r.elim
  | _ :: _, [], r, _ => r.elim
theorem RepR.flat {I : Im} {sz : Nat} : ∀ {xs : List AV} {b o : Nat}, RepR I sz xs b o → ∃ news : List Value, news.length = xs.length * sz ∧ (∀ j u, news[j]? = some u → I b (o + j) = some u) ∧
    (∀ (J : Im) (b' o' : Nat), I.le J → (∀ j u, news[j]? = some u → J b' (o' + j) = some u) → RepR J sz xs b' o') ∧ ((∀ x ∈ xs, 0 < x.cells.length ∧ x.cells.all AV.isCell = true) → ∀ v ∈ news, v.oneCell' = true)
  | [], _, _, _ => ⟨[], by simp, by simp, fun _ _ _ _ _ => by simp [RepR], by simp⟩
  | x :: xs, b, o, r => by
    simp only [RepR] at r
    obtain ⟨⟨u, h1, h2, h3⟩, h4⟩ := r
    obtain ⟨news, n1, n2, n3, n4⟩ := RepR.flat h4
    have hl : u.cells.toList.length = sz := by simpa using h2
    refine ⟨u.cells.toList ++ news, by simp [n1, h2, Nat.add_mul]; omega, fun j v hj => ?_, fun J b' o' hJ hm => ?_, fun hx v hv => ?_⟩
    · rw [List.getElem?_append] at hj
      split at hj
      · exact h3 j v (by simpa using hj)
      · rename_i hnl
        have := n2 _ v hj
        rwa [show o + sz + (j - u.cells.toList.length) = o + j by omega] at this
    · simp only [RepR]
      refine ⟨⟨u, h1.mono hJ, h2, fun j v hj => hm j v ?_⟩, n3 J b' (o' + sz) hJ (fun j v hj => ?_)⟩
      · rw [List.getElem?_append_left (by simpa using (Array.getElem?_eq_some_iff.1 hj).1)]; simpa using hj
      · have := hm (sz + j) v (by rw [List.getElem?_append_right (by omega)]; rw [hl]; simpa using hj)
        rwa [show o' + (sz + j) = o' + sz + j by omega] at this
    · rcases List.mem_append.1 hv with hv | hv
      · exact all_one (h1.cells' (hx x (by simp)).1) (hx x (by simp)).2 v hv
      · exact n4 (fun y hy => hx y (by simp [hy])) v hv
theorem RepR.of_cells {J : Im} {sz : Nat} : ∀ {xs : List AV} {us : List Value} {b o : Nat}, RepL J xs us → (∀ u ∈ us, u.cells.size = sz) → (∀ j v, ((us.map (·.cells.toList)).flatten)[j]? = some v → J b (o + j) = some v) → RepR J sz xs b o
  | [], [], _, _, _, _, _ => by simp [RepR]
  | x :: xs, u :: us, b, o, r, hs, hm => by
    simp only [RepR]
    have hu := hs u (by simp)
    refine ⟨⟨u, r.1, hu, fun j v hj => hm j v ?_⟩, RepR.of_cells r.2 (fun w hw => hs w (by simp [hw])) (fun j v hj => ?_)⟩
    · simp only [List.map_cons, List.flatten_cons]
      rw [List.getElem?_append_left (by simpa using (Array.getElem?_eq_some_iff.1 hj).1)]; simpa using hj
    · have := hm (sz + j) v (by simp only [List.map_cons, List.flatten_cons]; rw [List.getElem?_append_right (by simp; omega)]; simpa [hu] using hj)
      rwa [show o + (sz + j) = o + sz + j by omega] at this
  | [], _ :: _, _, _, r, _, _ => r.elim
  | _ :: _, [], _, _, r, _, _ => r.elim
def okEl (sz : Nat) (x : AV) : Bool := x.cells.length == sz && x.cells.all AV.isCell
def St.fresh (st : St) (sz : Nat) (t : Tok) : Prop := match t with | .no => False | .full => True | .own k => st.live k = false ∧ k.sz = sz
theorem St.has_add {st : St} {sz : Nat} {t : Tok} (h : st.fresh sz t) : (st.add t).has sz t = true := by
  cases t with
  | no => exact h.elim
  | full => rfl
  | own k => simp [St.has, St.add, h.2]
theorem St.add_kill {st : St} {sz : Nat} {t : Tok} (h : st.has sz t = true) : (st.kill t).add t = st := by
  cases t with
  | no => rfl
  | full => rfl
  | own k =>
    simp only [St.has, Bool.and_eq_true] at h
    simp only [St.kill, St.add]
    congr 1
    funext j
    split
    · rename_i e; subst e; exact h.1.symm
    · rfl
theorem grownCap_ge (w : World) (need old : Nat) (e : TypeId) : need ≤ grownCap w need old e := by
  simp only [grownCap, Question.cut]; omega
section
variable {B : Base} {I : Im} {st : St} {W : World}
theorem append_ok (h : Rel B I st W) {t ty e : TypeId} {i : TypeInfo} {z : Value} (ht : P.underlying t = some (.slice e)) (hi : P.info? e = some i) (hz : i.zero = some z) (hzs : z.cells.size = i.size) (hp : 0 < i.size)
    {xs ys : List AV} {tk ty2 : Tok} {u w : Value} (hu : Rep I (.sl xs tk) u) (hw : Rep I (.sl ys ty2) w) (hhas : st.has i.size tk = true) (hxs : ∀ x ∈ xs, x.cells.length = i.size) (hys : ∀ y ∈ ys, okEl i.size y = true)
    (hlen : xs.length + ys.length ≤ 1000000000000) (hfit : (xs.length + ys.length) * i.bytes ≤ 140737488355328) :
    ∃ t' v W' J, (Builtin.append_ #[t, t] ty #[u, w]).run P W = .ok v W' ∧ I.le J ∧ (st.kill tk).fresh i.size t' ∧ Rel B J ((st.kill tk).add t') W' ∧ Rep J (.sl (xs ++ ys) t') v := by
  simp only [Rep] at hu hw
  obtain ⟨a, c, sz, rfl, hc, hsz, hR, hnone, hspot, htok⟩ := hu
  obtain ⟨a2, c2, sz2, rfl, hc2, hsz2, hR2, hnone2, hspot2, _⟩ := hw
  -- what is appended
  have hys' : ∀ y ∈ ys, 0 < y.cells.length ∧ y.cells.all AV.isCell = true := fun y hy => by
    have := hys y hy; simp only [okEl, Bool.and_eq_true, beq_iff_eq] at this; exact ⟨by omega, this.2⟩
  obtain ⟨news, hnl, hnm, hnr, hn1⟩ : ∃ news : List Value, news.length = ys.length * i.size ∧ (∀ ad, a2 = some ad → ∀ j v, news[j]? = some v → W.cell? (ad.add j) = some v) ∧
      (∀ (J : Im) (b' o' : Nat), I.le J → (∀ j v, news[j]? = some v → J b' (o' + j) = some v) → RepR J i.size ys b' o') ∧ (∀ v ∈ news, v.oneCell' = true) := by
    rcases hR2 with rfl | ⟨b, o, rfl, hR2⟩
    · exact ⟨[], by simp, by simp, fun _ _ _ _ _ => by simp [RepR], by simp⟩
    · obtain ⟨news, n1, n2, n3, n4⟩ := hR2.flat
      cases ys with
      | nil => exact ⟨[], by simp, by simp, fun _ _ _ _ _ => by simp [RepR], by simp⟩
      | cons y ys =>
        have : sz2 = i.size := by
          simp only [RepR] at hR2
          obtain ⟨⟨u, h1, h2, _⟩, _⟩ := hR2
          have hy := hys y (by simp)
          simp only [okEl, Bool.and_eq_true, beq_iff_eq] at hy
          have := (h1.cells' (by omega)).length
          simp at this; omega
        subst this
        exact ⟨news, n1, fun ad e j v hj => by cases e; rw [addr_add]; exact h.imm _ _ _ (n2 j v hj), n3, n4 hys'⟩
  have hsrc : Src P i.size t (.slice a2 ys.length c2) ys.length news W := by
    cases a2 with
    | none =>
      have : ys.length = 0 := by have := hnone2 rfl; omega
      have hn0 : news = [] := by cases news; rfl; simp [this] at hnl
      rw [this, hn0]; exact Src.ofNil W ht c2
    | some ad => exact Src.ofSlice W ht ad _ c2 news hnl (hnm ad rfl) hn1
  by_cases hroom : xs.length + ys.length ≤ c
  · -- there is room
    by_cases hy0 : ys = []
    · subst hy0
      have hn0 : news = [] := by cases news; rfl; simp at hnl
      subst hn0
      refine ⟨tk, _, W, I, run_append_nothing W t t ty e i ht hi a xs.length c hc _ hsrc, Im.le.refl _, ?_, by rw [St.add_kill hhas]; exact h, ?_⟩
      · cases tk with
        | no => simp [St.has] at hhas
        | full => trivial
        | own k => simp only [St.has, Bool.and_eq_true, beq_iff_eq] at hhas; exact ⟨by simp [St.kill], hhas.2⟩
      · simp only [Rep, List.append_nil]; exact ⟨a, c, sz, rfl, hc, hsz, hR, hnone, hspot, htok⟩
    · cases tk with
      | no => simp [St.has] at hhas
      | full =>
        simp only [tokOk] at htok
        have : ys.length = 0 := by omega
        exact absurd (List.length_eq_zero_iff.1 this) hy0
      | own k =>
        simp only [St.has, Bool.and_eq_true, beq_iff_eq] at hhas
        obtain ⟨hlive, hksz⟩ := hhas
        simp only [tokOk] at htok
        obtain ⟨hs, o, rfl, hfr, hen⟩ := htok
        have hsz' : sz = i.size := by omega
        subst hsz'
        obtain ⟨arr, aty, hb, hle, hfree, hno⟩ := h.tk k hlive
        have hmul : xs.length * i.size + ys.length * i.size ≤ c * i.size := by rw [← Nat.add_mul]; exact Nat.mul_le_mul_right _ hroom
        have hcell : ∀ j, j < news.length → (W.cell? ⟨k.b, o + xs.length * i.size + j, none⟩).isSome = true := fun j hj => by
          rw [cell_of hb]
          have : o + xs.length * i.size + j < arr.size := by omega
          simp [this]
        have hrun := run_append_room_src (P := P) W t t ty e i ht hi k.b o xs.length c _ ys.length news hsrc hroom hcell (fun j hj => by simp [World.frozen?, hb])
        rw [← hfr] at hrun
        have hat := setCells_at k.b news k.fr W arr aty (0, 0) hb (by omega)
        obtain ⟨s1, s2, s3, s4, s5⟩ := setCells_same k.b news k.fr W
        obtain ⟨arr', harr'⟩ : ∃ arr', arr' = (arr.toList.take k.fr ++ news ++ arr.toList.drop (k.fr + news.length)).toArray := ⟨_, rfl⟩
        rw [← harr'] at hat
        have hsize : arr'.size = arr.size := by rw [harr']; simp; omega
        have hlow : ∀ j, j < k.fr → arr'[j]? = arr[j]? := fun j hj => by
          rw [harr']
          simp only [List.getElem?_toArray]
          rw [List.append_assoc, List.getElem?_append_left (by simp; omega), List.getElem?_take_of_lt hj]; simp
        have hnew : ∀ j v, news[j]? = some v → arr'[k.fr + j]? = some v := fun j v hj => by
          have hjl := (List.getElem?_eq_some_iff.1 hj).1
          rw [harr']
          simp only [List.getElem?_toArray]
          rw [List.append_assoc, List.getElem?_append_right (by simp; omega), List.getElem?_append_left (by simp; omega)]
          rw [show k.fr + j - (arr.toList.take k.fr).length = j by simp; omega]; exact hj
        have hk := h.kill (.own k)
        have hother : ∀ j, (st.kill (.own k)).live j = true → j.b ≠ k.b := fun j hj e' => by
          simp only [St.kill] at hj
          split at hj
          · cases hj
          · rename_i hne; exact hne (h.tk1 j k hj hlive e')
        have hown : B.X k.b ∨ B.W.heap.size ≤ k.b := h.own k.b (.inr ⟨k, hlive, rfl⟩)
        have hW : Rel B I (st.kill (.own k)) (W.setCells k.b k.fr news) := {
          cells := fun b' cs hb' => by
            obtain ⟨vs, ty', e', r⟩ := hk.cells b' cs hb'
            refine ⟨vs, ty', (s5 b' (fun e2 => ?_)).trans e', r⟩
            subst e2; have hb2 : st.objs k.b = some (.cells cs) := hb'; rw [hno] at hb2; cases hb2
          raw := fun b' x hb' => (s5 b' (fun e2 => by subst e2; have hb2 : st.objs k.b = some (.raw x) := hb'; rw [hno] at hb2; cases hb2)).trans (hk.raw b' x hb')
          minv := fun b' x hb' => by obtain ⟨es, clk, e', hp⟩ := hk.minv b' x hb'; exact ⟨es, clk, (s5 b' (fun e2 => by subst e2; have hb2 : st.objs k.b = some (.minv x) := hb'; rw [hno] at hb2; cases hb2)).trans e', hp⟩
          imm := fun b' o' v hv => by
            have h0 := hk.imm b' o' v hv
            by_cases e2 : b' = k.b
            · subst e2
              have ho' : o' < k.fr := by
                rcases Nat.lt_or_ge o' k.fr with h' | h'
                · exact h'
                · rw [hfree o' h'] at hv; cases hv
              rw [cell_of hat, hlow _ ho', ← cell_of hb]; exact h0
            · unfold World.cell? at h0 ⊢
              rw [s5 b' e2]; exact h0
          sep := hk.sep
          tk := fun j hj => by
            obtain ⟨arr2, ty2, e2, r⟩ := hk.tk j hj
            exact ⟨arr2, ty2, (s5 _ (hother j hj)).trans e2, r⟩
          tk1 := hk.tk1
          upd := hk.upd.trans ⟨s1, s2, s3, by omega, fun j _ hj => s5 j (fun e' => hj (by subst e'; exact hown))⟩
          own := hk.own
          le := hk.le
          new := hk.new }
        obtain ⟨hle2, hrel⟩ := hW.know (lo := k.fr) (hi := k.fr + news.length) hat hno (fun o' h1 _ => hfree o' h1) (fun j hj e' => absurd e' (hother j hj)) hown
        refine ⟨.own ⟨k.b, k.fr + news.length, k.en, i.size⟩, _, _, _, hrun, hle2, ⟨?_, rfl⟩, ?_, ?_⟩
        · cases hl2 : (st.kill (.own k)).live ⟨k.b, k.fr + news.length, k.en, i.size⟩ with
          | false => rfl
          | true => exact (hother _ hl2 rfl).elim
        · refine hrel.addTk hat (by simp only []; omega) (fun o' ho' => ?_) hno hother hown
          simp only at ho'
          unfold Im.row
          rw [if_neg (fun e' => by omega)]
          exact hfree o' (by omega)
        · simp only [Rep]
          refine ⟨_, c, i.size, by rw [List.length_append], by simp; omega, hsz, .inr ⟨k.b, o, rfl, ?_⟩, by simp, trivial, rfl, o, rfl, ?_, hen⟩
          · refine RepR.append ?_ (hnr _ _ _ hle2 (fun j v hj => ?_))
            · rcases hR with rfl | ⟨b1, o1, e1, hR⟩
              · simp [RepR]
              · simp only [Option.some.injEq, Addr.mk.injEq] at e1
                obtain ⟨rfl, rfl, _⟩ := e1
                exact hR.mono hle2
            · unfold Im.row
              have hjl := (List.getElem?_eq_some_iff.1 hj).1
              rw [if_pos ⟨rfl, by omega, by omega⟩, ← hfr]; exact hnew j v hj
          · simp only [List.length_append, Nat.add_mul]; omega
  · -- there is none
    have hg : c < xs.length + ys.length := by omega
    obtain ⟨olds, hol, hom, hor⟩ : ∃ olds : List Value, olds.length = xs.length * i.size ∧ (∀ w' : World, w'.heap = W.heap → (Builtin.firstCells i.size xs.length (.slice a xs.length c)).run P w' = .ok olds.toArray w') ∧
        (∀ (J : Im) (b' o' : Nat), I.le J → (∀ j v, olds[j]? = some v → J b' (o' + j) = some v) → RepR J i.size xs b' o') := by
      cases xs with
      | nil =>
        refine ⟨[], by simp, fun w' _ => ?_, fun _ _ _ _ _ => by simp [RepR]⟩
        cases a with
        | none => exact run_firstCells_none w' _ _ _ _
        | some ad => exact run_firstCells_some w' i.size 0 ad 0 c [] (by simp) (by simp)
      | cons x xs =>
        rcases hR with hx | ⟨b, o, rfl, hR⟩
        · cases hx
        · have : sz = i.size := by
            simp only [RepR] at hR
            obtain ⟨⟨u, h1, h2, _⟩, _⟩ := hR
            have hx := hxs x (by simp)
            have := (h1.cells' (by omega)).length
            simp at this; omega
          subst this
          obtain ⟨olds, n1, n2, n3, _⟩ := hR.flat
          refine ⟨olds, n1, fun w' hw' => run_firstCells_some w' i.size _ _ _ c olds n1 (fun j v hj => ?_), n3⟩
          have := h.imm _ _ _ (n2 j v hj)
          rw [addr_add]; unfold World.cell? at this ⊢; rw [hw']; exact this
    have hgrow := run_append_grow_src (P := P) W t t ty e i z ht hi hz a xs.length c olds (hom W.drew rfl) _ ys.length news hsrc hg (by omega) (growslice_fits hg hfit)
    obtain ⟨cap, hcap⟩ : ∃ cap, cap = grownCap W (xs.length + ys.length) c e := ⟨_, rfl⟩
    have hcapge : xs.length + ys.length ≤ cap := hcap ▸ grownCap_ge _ _ _ _
    obtain ⟨arr, harr⟩ : ∃ arr, arr = (olds ++ news).toArray ++ Builtin.zeroCells z.cells (cap - (xs.length + ys.length)) := ⟨_, rfl⟩
    rw [← hcap, ← harr] at hgrow
    have hk := (h.kill tk).drew
    obtain ⟨hle2, hrel⟩ := hk.newRow arr e ((xs.length + ys.length) * i.size)
    have hlt : ∀ j v, (olds ++ news)[j]? = some v → arr[j]? = some v := fun j v hj => by
      have hjl := (List.getElem?_eq_some_iff.1 hj).1
      rw [harr, Array.getElem?_append_left (by simpa using hjl)]; simpa using hj
    have hkn : ∀ j v, (olds ++ news)[j]? = some v → I.row W.drew.heap.size 0 ((xs.length + ys.length) * i.size) arr W.drew.heap.size j = some v := fun j v hj => by
      have hjl := (List.getElem?_eq_some_iff.1 hj).1
      unfold Im.row
      rw [if_pos ⟨rfl, Nat.zero_le _, by simp [Nat.add_mul] at hjl ⊢; omega⟩]
      exact hlt j v hj
    have hasz : cap * i.size ≤ arr.size := by
      rw [harr]; simp [size_zeroCells, hzs, hol, hnl, Nat.sub_mul, Nat.add_mul]
      have : (xs.length + ys.length) * i.size ≤ cap * i.size := Nat.mul_le_mul_right _ hcapge
      rw [Nat.add_mul] at this; omega
    refine ⟨.own ⟨W.drew.heap.size, (xs.length + ys.length) * i.size, cap * i.size, i.size⟩, _, _, _, hgrow, hle2, ⟨?_, rfl⟩, ?_, ?_⟩
    · exact hk.fresh_live (Nat.le_refl _)
    · refine hrel.addTk (heap_new _ _) hasz (fun o' ho' => ?_) (hk.fresh (Nat.le_refl _)) (fun j hj e' => by have := hk.live_lt hj; simp only at e'; omega) (.inr hk.upd.size)
      simp only at ho'
      unfold Im.row
      rw [if_neg (fun e' => by omega)]
      exact hk.immNone (Nat.le_refl _) o'
    · simp only [Rep]
      refine ⟨_, cap, i.size, by rw [List.length_append], by rw [List.length_append]; exact hcapge, hp, .inr ⟨W.heap.size, 0, rfl, ?_⟩, by simp, trivial, rfl, 0, rfl, by simp, by simp⟩
      refine RepR.append (hor _ _ _ hle2 (fun j v hj => ?_)) (hnr _ _ _ hle2 (fun j v hj => ?_))
      · rw [Nat.zero_add]; exact hkn j v (by rw [List.getElem?_append_left (List.getElem?_eq_some_iff.1 hj).1]; exact hj)
      · have := hkn (olds.length + j) v (by rw [List.getElem?_append_right (by omega)]; simpa using hj)
        rw [Nat.zero_add, ← hol]; exact this
theorem RepR.flatL {I : Im} {sz : Nat} : ∀ {xs : List AV} {b o : Nat}, RepR I sz xs b o → (∀ x ∈ xs, 0 < x.cells.length) → ∃ news : List Value, news.length = xs.length * sz ∧ (∀ j u, news[j]? = some u → I b (o + j) = some u) ∧ RepL I (xs.flatMap AV.cells) news ∧
    ((∀ x ∈ xs, x.cells.all AV.isCell = true) → ∀ v ∈ news, v.oneCell' = true)
  | [], _, _, _, _ => ⟨[], by simp, by simp, by simp [RepL], by simp⟩
  | x :: xs, b, o, r, hp => by
    simp only [RepR] at r
    obtain ⟨⟨u, h1, h2, h3⟩, h4⟩ := r
    obtain ⟨news, n1, n2, n3, n4⟩ := RepR.flatL h4 (fun y hy => hp y (by simp [hy]))
    have hl : u.cells.toList.length = sz := by simpa using h2
    refine ⟨u.cells.toList ++ news, by simp [n1, h2, Nat.add_mul]; omega, fun j v hj => ?_, ?_, fun hx v hv => ?_⟩
    · rw [List.getElem?_append] at hj
      split at hj
      · exact h3 j v (by simpa using hj)
      · rename_i hnl
        have := n2 _ v hj
        rwa [show o + sz + (j - u.cells.toList.length) = o + j by omega] at this
    · simp only [List.flatMap_cons]
      exact (h1.cells' (hp x (by simp))).append n3
    · rcases List.mem_append.1 hv with hv | hv
      · exact all_one (h1.cells' (hp x (by simp))) (hx x (by simp)) v hv
      · exact n4 (fun y hy => hx y (by simp [hy])) v hv
theorem repL_undef (I : Im) : ∀ (vs : List Value), RepL I (List.replicate vs.length .undef) vs
  | [] => by simp [RepL]
  | _ :: vs => by simp only [List.length_cons, List.replicate_succ, RepL, Rep]; exact ⟨trivial, repL_undef I vs⟩
theorem src_of (h : Rel B I st W) {t e : TypeId} {sz : Nat} (hp : 0 < sz) (ht : P.underlying t = some (.slice e)) {ys : List AV} {ty2 : Tok} {w : Value} (hw : Rep I (.sl ys ty2) w) (hys : ∀ y ∈ ys, okEl sz y = true) :
    ∃ news : List Value, news.length = ys.length * sz ∧ RepL I (ys.flatMap AV.cells) news ∧ Src P sz t w ys.length news W := by
  simp only [Rep] at hw
  obtain ⟨a2, c2, sz2, rfl, hc2, hsz2, hR2, hnone2, hspot2, _⟩ := hw
  have hys' : ∀ y ∈ ys, 0 < y.cells.length ∧ y.cells.all AV.isCell = true := fun y hy => by
    have := hys y hy; simp only [okEl, Bool.and_eq_true, beq_iff_eq] at this; exact ⟨by omega, this.2⟩
  cases ys with
  | nil =>
    refine ⟨[], by simp, by simp [RepL], ?_⟩
    cases a2 with
    | none => exact Src.ofNil W ht c2
    | some ad => exact Src.ofSlice W ht ad 0 c2 [] (by simp) (by simp) (by simp)
  | cons y ys =>
    rcases hR2 with h0 | ⟨b, o, rfl, hR2⟩
    · cases h0
    · have : sz2 = sz := by
        simp only [RepR] at hR2
        obtain ⟨⟨u, h1, h2, _⟩, _⟩ := hR2
        have hy := hys y (by simp)
        simp only [okEl, Bool.and_eq_true, beq_iff_eq] at hy
        have := (h1.cells' (by omega)).length
        simp at this; omega
      subst this
      obtain ⟨news, n1, n2, n3, n4⟩ := hR2.flatL (fun y hy => (hys' y hy).1)
      exact ⟨news, n1, n3, Src.ofSlice W ht ⟨b, o, none⟩ _ c2 news n1 (fun j v hj => by rw [addr_add]; exact h.imm _ _ _ (n2 j v hj)) (n4 (fun y hy => (hys' y hy).2))⟩
theorem append_new (h : Rel B I st W) {t ty e : TypeId} {i : TypeInfo} {z : Value} (ht : P.underlying t = some (.slice e)) (hi : P.info? e = some i) (hz : i.zero = some z) (hzs : z.cells.size = i.size) (hp : 0 < i.size)
    {xs ys : List AV} {ty2 : Tok} {u w : Value} (hu : Rep I (.sl xs .full) u) (hw : Rep I (.sl ys ty2) w) (hne : ys ≠ []) (hxs : ∀ x ∈ xs, x.cells.length = i.size) (hys : ∀ y ∈ ys, okEl i.size y = true)
    (hlen : xs.length + ys.length ≤ 1000000000000) (hfit : (xs.length + ys.length) * i.bytes ≤ 140737488355328) :
    ∃ b c v W', (Builtin.append_ #[t, t] ty #[u, w]).run P W = .ok v W' ∧ st.objs b = none ∧ xs.length + ys.length ≤ c ∧
      Rel B I (st.ins b (.cells ((xs ++ ys).flatMap AV.cells ++ List.replicate ((c - (xs.length + ys.length)) * i.size) .undef))) W' ∧ Rep I (.osl b (xs.length + ys.length) c) v := by
  obtain ⟨news, hnl, hnr, hsrc⟩ := src_of h hp ht hw hys
  simp only [Rep] at hu
  obtain ⟨a, c, sz, rfl, hc, hsz, hR, hnone, hspot, htok⟩ := hu
  simp only [tokOk] at htok
  have hpos : 0 < ys.length := List.length_pos_iff.2 hne
  have hg : c < xs.length + ys.length := by omega
  obtain ⟨olds, hol, hom, hor⟩ : ∃ olds : List Value, olds.length = xs.length * i.size ∧ (∀ w' : World, w'.heap = W.heap → (Builtin.firstCells i.size xs.length (.slice a xs.length c)).run P w' = .ok olds.toArray w') ∧ RepL I (xs.flatMap AV.cells) olds := by
    cases xs with
    | nil =>
      refine ⟨[], by simp, fun w' _ => ?_, by simp [RepL]⟩
      cases a with
      | none => exact run_firstCells_none w' _ _ _ _
      | some ad => exact run_firstCells_some w' i.size 0 ad 0 c [] (by simp) (by simp)
    | cons x xs =>
      rcases hR with hx | ⟨b, o, rfl, hR⟩
      · cases hx
      · have : sz = i.size := by
          simp only [RepR] at hR
          obtain ⟨⟨u, h1, h2, _⟩, _⟩ := hR
          have hx := hxs x (by simp)
          have := (h1.cells' (by omega)).length
          simp at this; omega
        subst this
        obtain ⟨olds, n1, n2, n3, _⟩ := hR.flatL (fun y hy => by rw [hxs y hy]; omega)
        refine ⟨olds, n1, fun w' hw' => run_firstCells_some w' i.size _ _ _ c olds n1 (fun j v hj => ?_), n3⟩
        have := h.imm _ _ _ (n2 j v hj)
        rw [addr_add]; unfold World.cell? at this ⊢; rw [hw']; exact this
  have hgrow := run_append_grow_src (P := P) W t t ty e i z ht hi hz a xs.length c olds (hom W.drew rfl) _ ys.length news hsrc hg (by omega) (growslice_fits hg hfit)
  obtain ⟨cap, hcap⟩ : ∃ cap, cap = grownCap W (xs.length + ys.length) c e := ⟨_, rfl⟩
  have hcapge : xs.length + ys.length ≤ cap := hcap ▸ grownCap_ge _ _ _ _
  obtain ⟨arr, harr⟩ : ∃ arr, arr = (olds ++ news).toArray ++ Builtin.zeroCells z.cells (cap - (xs.length + ys.length)) := ⟨_, rfl⟩
  rw [← hcap, ← harr] at hgrow
  have hd := h.drew
  refine ⟨W.heap.size, cap, _, _, hgrow, h.fresh (Nat.le_refl _), hcapge, ?_, ?_⟩
  · refine (hd.alloc_any _).ins_cells (heap_new _ _) ?_ (hd.immNone (Nat.le_refl _)) (fun k hk e => by have := hd.live_lt hk; exact absurd e (Nat.ne_of_lt this)) (.inr hd.upd.size)
    rw [harr]
    simp only [Array.toList_append, List.flatMap_append]
    refine (hor.append hnr).append ?_
    have := repL_undef I (Builtin.zeroCells z.cells (cap - (xs.length + ys.length))).toList
    rwa [Array.length_toList, size_zeroCells, hzs] at this
  · simp only [Rep]
    exact ⟨trivial, hcapge⟩
theorem St.le.trans_ {a b c : St} (h : a.le b) (k : b.le c) : a.le c := ⟨fun x o e => k.objs x o (h.objs x o e), fun x e => k.live x (h.live x e)⟩
def St.del (st : St) (b : Nat) : St := { st with objs := fun i => if i = b then none else st.objs i }
theorem St.del_le (st : St) (b : Nat) : (st.del b).le st := ⟨fun x o e => by simp only [St.del] at e; split at e; cases e; exact e, fun _ e => e⟩
theorem del_ins_le (st : St) (b : Nat) (o : AObj) : ((st.del b).ins b o).le (st.ins b o) := ⟨fun x y e => by simp only [St.del, St.ins] at e ⊢; split at e <;> simp_all, fun _ e => e⟩
theorem append_osl (h : Rel B I st W) {t ty e : TypeId} {i : TypeInfo} {z : Value} (ht : P.underlying t = some (.slice e)) (hi : P.info? e = some i) (hz : i.zero = some z) (hzs : z.cells.size = i.size) (hp : 0 < i.size)
    {b n c : Nat} {cs ys : List AV} {ty2 : Tok} {u w : Value} (hu : Rep I (.osl b n c) u) (hob : st.objs b = some (.cells cs)) (hcs : cs.length = c * i.size) (hw : Rep I (.sl ys ty2) w) (hys : ∀ y ∈ ys, okEl i.size y = true)
    (hlen : n + ys.length ≤ 1000000000000) (hfit : (n + ys.length) * i.bytes ≤ 140737488355328) :
    ∃ b' c' rest v W', (Builtin.append_ #[t, t] ty #[u, w]).run P W = .ok v W' ∧ (b' = b ∨ st.objs b' = none) ∧ n + ys.length ≤ c' ∧ rest.length = (c' - (n + ys.length)) * i.size ∧
      Rel B I ((st.del b).ins b' (.cells (cs.take (n * i.size) ++ ys.flatMap AV.cells ++ rest))) W' ∧ Rep I (.osl b' (n + ys.length) c') v := by
  obtain ⟨news, hnl, hnr, hsrc⟩ := src_of h hp ht hw hys
  have hflen := hnr.length
  simp only [Rep] at hu
  obtain ⟨rfl, hc⟩ := hu
  obtain ⟨vs, vty, hv, hr⟩ := h.cells b cs hob
  have hvl := hr.length
  have hvsz : vs.size = c * i.size := by simpa [hcs] using hvl
  by_cases hroom : n + ys.length ≤ c
  · have hmul : n * i.size + ys.length * i.size ≤ c * i.size := by rw [← Nat.add_mul]; exact Nat.mul_le_mul_right _ hroom
    by_cases hy0 : ys = []
    · subst hy0
      have hn0 : news = [] := by cases news; rfl; simp at hnl
      subst hn0
      refine ⟨b, c, cs.drop (n * i.size), _, W, run_append_nothing W t t ty e i ht hi (some ⟨b, 0, none⟩) n c hc _ hsrc, .inl rfl, by simpa using hc, by simp [hcs, Nat.sub_mul], ?_, ?_⟩
      · refine h.weaken (St.le.trans_ (del_ins_le st b _) ?_)
        simp only [List.flatMap_nil, List.append_nil, List.take_append_drop]
        exact ⟨fun x y e => by simp only [St.ins] at e; split at e; · (rename_i hx; subst hx; cases e; exact hob)
                               exact e, fun _ e => e⟩
      · simp only [Rep, List.length_nil, Nat.add_zero]; exact ⟨trivial, hc⟩
    · have hcell : ∀ j, j < news.length → (W.cell? ⟨b, 0 + n * i.size + j, none⟩).isSome = true := fun j hj => by
        rw [cell_of hv]
        have : n * i.size + j < vs.size := by omega
        rw [Nat.zero_add]
        simp [this]
      have hrun := run_append_room_src (P := P) W t t ty e i ht hi b 0 n c _ ys.length news hsrc hroom hcell (fun j hj => by simp [World.frozen?, hv])
      rw [Nat.zero_add] at hrun
      have hst := h.store hob (off := n * i.size) hnr (by rw [← hflen, hnl]; omega)
      refine ⟨b, c, cs.drop (n * i.size + (ys.flatMap AV.cells).length), _, _, hrun, .inl rfl, hroom, ?_, hst.weaken (del_ins_le st b _), ?_⟩
      · rw [← hflen, hnl, List.length_drop, hcs, Nat.sub_mul, Nat.add_mul]
      · simp only [Rep]; exact ⟨trivial, hroom⟩
  · have hg : c < n + ys.length := by omega
    have holen : (vs.toList.take (n * i.size)).length = n * i.size := by
      have : n * i.size ≤ c * i.size := Nat.mul_le_mul_right _ hc
      simp; omega
    have hom : (Builtin.firstCells i.size n (.slice (some ⟨b, 0, none⟩) n c)).run P W.drew = .ok (vs.toList.take (n * i.size)).toArray W.drew := by
      refine run_firstCells_some W.drew i.size n ⟨b, 0, none⟩ n c _ holen (fun j v hj => ?_)
      rw [addr_add, Nat.zero_add]
      have : W.drew.cell? ⟨b, j, none⟩ = W.cell? ⟨b, j, none⟩ := rfl
      rw [this, cell_of hv]
      rw [List.getElem?_take] at hj
      split at hj
      · simpa using hj
      · cases hj
    have hgrow := run_append_grow_src (P := P) W t t ty e i z ht hi hz (some ⟨b, 0, none⟩) n c (vs.toList.take (n * i.size)) hom _ ys.length news hsrc hg (by omega) (growslice_fits hg hfit)
    obtain ⟨cap, hcap⟩ : ∃ cap, cap = grownCap W (n + ys.length) c e := ⟨_, rfl⟩
    have hcapge : n + ys.length ≤ cap := hcap ▸ grownCap_ge _ _ _ _
    obtain ⟨arr, harr⟩ : ∃ arr, arr = (vs.toList.take (n * i.size) ++ news).toArray ++ Builtin.zeroCells z.cells (cap - (n + ys.length)) := ⟨_, rfl⟩
    rw [← hcap, ← harr] at hgrow
    have hd := (h.weaken (St.del_le st b)).drew
    refine ⟨W.heap.size, cap, List.replicate ((cap - (n + ys.length)) * i.size) .undef, _, _, hgrow, .inr (h.fresh (Nat.le_refl _)), hcapge, by simp, ?_, ?_⟩
    · refine (hd.alloc_any _).ins_cells (heap_new _ _) ?_ (hd.immNone (Nat.le_refl _)) (fun k hk e => by have := hd.live_lt hk; exact absurd e (Nat.ne_of_lt this)) (.inr hd.upd.size)
      rw [harr]
      simp only [Array.toList_append]
      refine ((hr.take _).append hnr).append ?_
      have := repL_undef I (Builtin.zeroCells z.cells (cap - (n + ys.length))).toList
      rwa [Array.length_toList, size_zeroCells, hzs] at this
    · simp only [Rep]; exact ⟨trivial, hcapge⟩
theorem RepR.of_flat {J : Im} {sz b : Nat} (hp : 0 < sz) : ∀ {xs : List AV} {vs : List Value} {o : Nat}, (∀ x ∈ xs, okEl sz x = true) → RepL J (xs.flatMap AV.cells) vs → (∀ j v, vs[j]? = some v → J b (o + j) = some v) → RepR J sz xs b o
  | [], _, _, _, _, _ => by simp [RepR]
  | x :: xs, vs, o, hk, hr, hm => by
    have hx := hk x (by simp)
    simp only [okEl, Bool.and_eq_true, beq_iff_eq] at hx
    simp only [List.flatMap_cons] at hr
    have h1 := hr.take sz
    have h2 := hr.drop sz
    rw [List.take_append_of_le_length (by omega), List.take_of_length_le (by omega)] at h1
    rw [List.drop_append_of_le_length (by omega), List.drop_of_length_le (by omega), List.nil_append] at h2
    have hl1 := h1.length
    simp only [RepR]
    refine ⟨?_, RepR.of_flat hp (fun y hy => hk y (by simp [hy])) h2 (fun j v hj => ?_)⟩
    · have hrow : ∀ j v, (vs.take sz)[j]? = some v → J b (o + j) = some v := fun j v hj => by
        rw [List.getElem?_take] at hj
        split at hj
        · exact hm j v hj
        · cases hj
      cases x with
      | agg cs =>
        refine ⟨.agg (vs.take sz).toArray, by simp only [Rep]; exact ⟨_, rfl, by simpa [AV.cells] using h1⟩, by simp only [Value.cells]; simpa [AV.cells] using hl1.trans hx.1, fun j v hj => hrow j v (by simpa [Value.cells] using hj)⟩
      | undef => simp [AV.cells] at hx; omega
      | no => simp [AV.cells] at hx; omega
      | tup vs => simp [AV.cells, AV.isCell] at hx
      | _ =>
        simp only [AV.cells] at h1 hx hl1
        match hv : vs.take sz, h1 with
        | [v], h1 =>
          have hcell := isCell_one h1.1 rfl
          have hone : v.cells = #[v] := by cases v <;> first | rfl | (simp [Value.oneCell'] at hcell)
          refine ⟨v, h1.1, by rw [hone]; simpa using hx.1, fun j u hj => ?_⟩
          rw [hone] at hj
          exact hrow j u (by rw [hv]; simpa using hj)
        | [], h1 => exact h1.elim
        | _ :: _ :: _, h1 => exact h1.2.elim
    · have := hm (sz + j) v (by rw [List.getElem?_drop] at hj; exact hj)
      rwa [show o + (sz + j) = o + sz + j by omega] at this
end
end Go.Proofs.YtglekfgoadehbaaDoor.V
end
section
set_option linter.unusedSimpArgs false
set_option linter.unusedVariables false
/- Maps whose keys are numbers or strings: what their operations do. -/
namespace Go.Proofs.YtglekfgoadehbaaDoor.V
open Go Go.RowKit
def kvalK (str : Bool) : AV → Option Value
  | .int k n => if str then none else some (.int k n)
  | .str s => if str then some (.string s) else none
  | _ => none
def cval : AV → Option Value
  | .int k n => some (.int k n)
  | .str s => some (.string s)
  | .bool b => some (.bool b)
  | _ => none
theorem kvalK_ok {I : Im} {str : Bool} {a : AV} {v u : Value} (h : kvalK str a = some v) (hr : Rep I a u) : u = v := by
  unfold kvalK at h
  split at h
  · split at h
    · cases h
    · cases h; simpa only [Rep] using hr
  · split at h
    · cases h; simpa only [Rep] using hr
    · cases h
  · cases h
theorem cval_ok {I : Im} {a : AV} {v u : Value} (h : cval a = some v) (hr : Rep I a u) : u = v := by
  unfold cval at h
  split at h <;> first | (cases h; done) | (cases h; simpa only [Rep] using hr)
def sameK : Value → Value → Option Bool
  | .int k a, .int k' b => if k = k' then some (a == b) else none
  | .string a, .string b => some (a == b)
  | _, _ => none
def mfind (k : Value) : List MapEntry → Nat → Option (Option (Nat × Value))
  | [], _ => some none
  | e :: es, i => match sameK k e.key with
    | some true => some (some (i, e.val))
    | some false => mfind k es (i + 1)
    | none => none
def mput (k v : Value) (es : Array MapEntry) (clk : Nat) : Option (Array MapEntry × Nat) := match mfind k es.toList 0 with
  | some (some (i, _)) => some (es.modify i fun e => { e with key := k, val := v }, clk)
  | some none => some (es.push { key := k, val := v, born := clk }, clk + 1)
  | none => none
def mentF (k z : Value) (es : Array MapEntry) (clk : Nat) : Option (Value × Nat × Array MapEntry × Nat) := match mfind k es.toList 0 with
  | some (some (i, v)) => some (v, ((es[i]?).map (·.born)).getD 0, es.modify i fun e => { e with key := k }, clk)
  | some none => some (z, clk, es.push { key := k, val := z, born := clk }, clk + 1)
  | none => none
def msetF (n : Int) (v : Value) (es : Array MapEntry) : Option (Array MapEntry) := match es.findIdx? (fun e => (e.born : Int) == n) with
  | some i => some (es.modify i fun e => { e with val := v })
  | none => none
def keyD (str : Bool) : TypeDesc → Bool
  | .int _ => !str
  | .string => str
  | _ => false
variable {P : Program} {W : World}
theorem sameNow_K {str : Bool} {kd : TypeDesc} {a : AV} {k e : Value} {r : Bool} (hd : keyD str kd = true) (ha : kvalK str a = some k) (h : sameK k e = some r) : Instr.sameNow kd k e = some r := by
  cases str with
  | false =>
    cases kd <;> simp only [keyD, reduceCtorEq, Bool.false_eq_true] at hd
    unfold kvalK at ha
    split at ha
    · simp only [Bool.false_eq_true, if_false, Option.some.injEq] at ha; subst ha
      cases e <;> simp only [sameK, reduceCtorEq] at h
      simpa only [Instr.sameNow] using h
    · simp at ha
    · cases ha
  | true =>
    cases kd <;> simp only [keyD, reduceCtorEq, Bool.false_eq_true, Bool.not_true] at hd
    unfold kvalK at ha
    split at ha
    · simp at ha
    · simp only [if_true, Option.some.injEq] at ha; subst ha
      cases e <;> simp only [sameK, reduceCtorEq] at h
      simpa only [Instr.sameNow] using h
    · cases ha
theorem findNow_m {str : Bool} {kd : TypeDesc} {a : AV} {k : Value} (hd : keyD str kd = true) (ha : kvalK str a = some k) : ∀ (es : List MapEntry) (i : Nat) (r : Option (Nat × Value)), mfind k es i = some r → Instr.findNow kd k es i = some r
  | [], _, _, h => by simpa [mfind, Instr.findNow] using h
  | e :: es, i, r, h => by
    unfold mfind at h
    unfold Instr.findNow
    split at h
    · rename_i h1; rw [sameNow_K hd ha h1]; exact h
    · rename_i h1; rw [sameNow_K hd ha h1]; exact findNow_m hd ha es (i + 1) r h
    · cases h
theorem run_findKey_m {str : Bool} {kt : TypeId} {kd : TypeDesc} {a : AV} {k : Value} (hk : P.underlying kt = some kd) (hd : keyD str kd = true) (ha : kvalK str a = some k) {es : List MapEntry} {r : Option (Nat × Value)} (h : mfind k es 0 = some r) :
    (Instr.findKey kt k es).run P W = .ok r W := by
  unfold Instr.findKey
  rw [Sem.run_bind, run_underlying hk]
  simp only [Result.andThen_ok, findNow_m hd ha es 0 r h]
  rfl
theorem run_checkKey_m {str : Bool} {kt : TypeId} {kd : TypeDesc} {a : AV} {k : Value} (em : Bool) (hk : P.underlying kt = some kd) (hd : keyD str kd = true) (ha : kvalK str a = some k) : (Instr.checkKey em 10000 kt k).run P W = .ok () W := by
  show (Instr.checkKey em (9999 + 1) kt k).run P W = .ok () W
  unfold Instr.checkKey
  rw [Sem.run_bind, run_underlying hk]
  simp only [Result.andThen_ok]
  have h1 : (∃ q n, k = .int q n) ∨ ∃ s, k = .string s := by
    unfold kvalK at ha
    split at ha
    · split at ha
      · cases ha
      · cases ha; exact .inl ⟨_, _, rfl⟩
    · split at ha
      · cases ha; exact .inr ⟨_, rfl⟩
      · cases ha
    · cases ha
  have h2 : (∃ q, kd = .int q) ∨ kd = .string := by
    unfold keyD at hd
    split at hd
    · exact .inl ⟨_, rfl⟩
    · exact .inr rfl
    · cases hd
  rcases h1 with ⟨q, n, rfl⟩ | ⟨s, rfl⟩ <;> rcases h2 with ⟨q', rfl⟩ | rfl <;> rfl
theorem run_getObj_m {b clk : Nat} {es : Array MapEntry} (hb : W.heap[b]? = some (.map es clk)) : (getObj b).run P W = .ok (.map es clk) W := by simp [getObj, Sem.run, hb]
theorem run_setObj_m {b clk : Nat} {es : Array MapEntry} (o : Obj) (hb : W.heap[b]? = some (.map es clk)) : (setObj b o).run P W = .ok () (W.putObj b o) := by simp [setObj, Sem.run, hb, World.putObj]
def lookV (ok : Bool) (z : Value) : Option (Nat × Value) → Value
  | some (_, v) => if ok then .tuple #[v, .bool true] else v
  | none => if ok then .tuple #[z, .bool false] else z
theorem run_lookup_m {str ok : Bool} {t kt e : TypeId} {kd : TypeDesc} {a : AV} {k z : Value} (ht : P.underlying t = some (.map kt e)) (hk : P.underlying kt = some kd) (hd : keyD str kd = true) (ha : kvalK str a = some k) (hz : (zeroValue e).run P W = .ok z W)
    {b clk : Nat} {es : Array MapEntry} (hb : W.heap[b]? = some (.map es clk)) {r : Option (Nat × Value)} (h : mfind k es.toList 0 = some r) :
    (Instr.lookup t (.map (some b)) k ok).run P W = .ok (lookV ok z r) W := by
  unfold Instr.lookup
  simp only [Sem.run_bind, run_underlying ht, Result.andThen_ok, run_getObj_m hb, Sem.run_pure, run_checkKey_m _ hk hd ha, run_findKey_m hk hd ha h]
  cases r with
  | none => simp only [Sem.run_bind, hz, Result.andThen_ok, Sem.run_pure, lookV]
  | some q => obtain ⟨i, v⟩ := q; simp only [Sem.run_bind, Result.andThen_ok, Sem.run_pure, lookV]
theorem mfind_key {k : Value} : ∀ {es : List MapEntry} {i j : Nat} {v : Value}, mfind k es i = some (some (j, v)) → ∃ e, i ≤ j ∧ es[j - i]? = some e ∧ sameK k e.key = some true ∧ e.val = v
  | [], _, _, _, h => by simp [mfind] at h
  | e :: es, i, j, v, h => by
    unfold mfind at h
    split at h
    · rename_i h1; cases h; exact ⟨e, Nat.le_refl _, by simp, h1, rfl⟩
    · obtain ⟨e', h1, h2, h3, h4⟩ := mfind_key h
      refine ⟨e', by omega, ?_, h3, h4⟩
      rw [show j - i = (j - (i + 1)) + 1 by omega]; simpa using h2
    · cases h
theorem sameBits_K {k e : Value} (n : Nat) (h : sameK k e = some true) : Instr.sameBits n e k = true := by
  unfold sameK at h
  split at h
  · obtain ⟨h1, h2⟩ : _ ∧ _ := by
      split at h
      · rename_i hk; exact ⟨hk, by simpa using h⟩
      · cases h
    subst h1; subst h2
    cases n <;> simp [Instr.sameBits]
  · simp only [Option.some.injEq] at h
    have h1 := (MapKept.bytes_beq _ _).1 h
    subst h1
    cases n <;> simp [Instr.sameBits, h]
  · cases h
theorem run_keyStays {k e : Value} (h : sameK k e = some true) : (Instr.keyThatStays e k).run P W = .ok k W := by
  unfold Instr.keyThatStays
  rw [if_pos (sameBits_K _ h)]; rfl
theorem run_mapUpdate_m {str : Bool} {t kt e : TypeId} {kd : TypeDesc} {a : AV} {k v : Value} (ht : P.underlying t = some (.map kt e)) (hk : P.underlying kt = some kd) (hd : keyD str kd = true) (ha : kvalK str a = some k)
    {b clk clk' : Nat} {es es' : Array MapEntry} (hb : W.heap[b]? = some (.map es clk)) (h : mput k v es clk = some (es', clk')) :
    (Instr.mapUpdate t (.map (some b)) k v).run P W = .ok () (W.putObj b (.map es' clk')) := by
  unfold mput at h
  unfold Instr.mapUpdate
  split at h
  · rename_i i v0 hf
    cases h
    obtain ⟨e0, _, h2, h3, _⟩ := mfind_key hf
    have h2' : es[i]? = some e0 := by simpa using h2
    simp only [Sem.run_bind, run_underlying ht, Result.andThen_ok, run_getObj_m hb, run_checkKey_m _ hk hd ha, run_findKey_m hk hd ha hf, h2', Option.map_some, Option.getD_some, run_keyStays h3, run_setObj_m _ hb]
  · rename_i hf
    cases h
    simp only [Sem.run_bind, run_underlying ht, Result.andThen_ok, run_getObj_m hb, run_checkKey_m _ hk hd ha, run_findKey_m hk hd ha hf, run_setObj_m _ hb]
  · cases h
theorem run_mapEntry_m {str : Bool} {t kt e : TypeId} {kd : TypeDesc} {a : AV} {k z v : Value} {n : Nat} (ht : P.underlying t = some (.map kt e)) (hk : P.underlying kt = some kd) (hd : keyD str kd = true) (ha : kvalK str a = some k) (hz : (zeroValue e).run P W = .ok z W)
    {b clk clk' : Nat} {es es' : Array MapEntry} (hb : W.heap[b]? = some (.map es clk)) (h : mentF k z es clk = some (v, n, es', clk')) :
    (Instr.mapEntry t (.map (some b)) k).run P W = .ok (.tuple #[v, .int .i64 n]) (W.putObj b (.map es' clk')) := by
  unfold mentF at h
  unfold Instr.mapEntry
  split at h
  · rename_i i v0 hf
    cases h
    obtain ⟨e0, _, h2, h3, _⟩ := mfind_key hf
    have h2' : es[i]? = some e0 := by simpa using h2
    simp only [Sem.run_bind, run_underlying ht, Result.andThen_ok, run_getObj_m hb, run_checkKey_m _ hk hd ha, run_findKey_m hk hd ha hf, h2', Option.map_some, Option.getD_some, run_keyStays h3, run_setObj_m _ hb, Sem.run_pure, goInt]
  · rename_i hf
    cases h
    simp only [Sem.run_bind, run_underlying ht, Result.andThen_ok, run_getObj_m hb, run_checkKey_m _ hk hd ha, run_findKey_m hk hd ha hf, hz, run_setObj_m _ hb, Sem.run_pure, goInt]
  · cases h
theorem run_entryStore_m {t : TypeId} {v : Value} {q : IntKind} {n : Int} {b clk : Nat} {es es' : Array MapEntry} (hb : W.heap[b]? = some (.map es clk)) (h : msetF n v es = some es') :
    (Instr.entryStore t (.map (some b)) (.int q n) v).run P W = .ok () (W.putObj b (.map es' clk)) := by
  unfold msetF at h
  unfold Instr.entryStore
  split at h
  · rename_i i hf
    cases h
    simp only [Sem.run_bind, Sem.run_pure, Result.andThen_ok, run_getObj_m hb, asInt, asIntOf, hf, run_setObj_m _ hb]
  · cases h
theorem run_makeMap_m (t : TypeId) : (Instr.makeMap t none).run P W = .ok (.map (some W.heap.size)) (W.alloc (.map #[] 0)) := by
  unfold Instr.makeMap
  simp only [Sem.run_bind, newObj, Sem.run, Result.andThen_ok, Sem.run_pure]
  rfl
end Go.Proofs.YtglekfgoadehbaaDoor.V
end
section
set_option linter.unusedSimpArgs false
set_option linter.unusedVariables false
/- Operations of the program's form, as operations over values with rows taken in. -/
namespace Go.Proofs.YtglekfgoadehbaaDoor.V
open Go Go.RowKit
inductive VO where
  | mov (x : VE)
  | pick (c a b : VE)
  | build (zero : List AV) (parts : List (Nat × Nat × VE))
  | bsl (sz : Nat) (xs : List VE)
  | load (n : Nat) (ag : Bool) (x : VE)
  | nchk (x : VE)
  | bin (op : BinOp) (x y : VE)
  | eqs (neg : Bool) (ks : List Nat) (x y : VE)
  | eqs1 (neg : Bool) (x y : VE)
  | un (op : UnOp) (x : VE)
  | conv (k : IntKind) (x : VE)
  | mkf (f : Nat) (fs cs : List VE)
  | slc (sz : Nat) (x : VE) (lo hi mx : Option VE)
  | fad (off : Nat) (x : VE)
  | fld (off n : Nat) (ag : Bool) (x : VE)
  | iad (sz : Nat) (x i : VE)
  | iaa (len sz : Nat) (x i : VE)
  | ixa (len sz : Nat) (ag : Bool) (x i : VE)
  | ixs (x i : VE)
  | ext (x : VE) (i : Nat)
  | len (x : VE)
  | lens (x : VE)
  | mnx (mn : Bool) (x : VE) (xs : List VE)
  | box (x : VE)
  | alloc (cs : List AV)
  | store (n : Nat) (x v : VE)
  | app (sz bytes : Nat) (s x : VE)
  | call (f : Nat) (args : List VE)
  | callv (g : VE) (args : List VE)
  | isnil (neg : Bool) (x : VE)
  | mkm
  | mlk (str : Bool) (z : AV) (ok : Bool) (x i : VE)
  | mup (str : Bool) (x i v : VE)
  | ment (str : Bool) (z : AV) (x i : VE)
  | mst (x s v : VE)
  | clr (sz : Nat) (x : VE)
  | bad
  deriving Inhabited
def vpick (c a b : AV) : Option AV := match c with | .bool t => some (if t then a else b) | _ => none
def vfill : List AV → List (Nat × Nat × AV) → Option (List AV)
  | cs, [] => some cs
  | cs, (off, n, x) :: r => if x.cells.length = n ∧ 0 < n ∧ off + n ≤ cs.length then vfill (cs.take off ++ x.cells ++ cs.drop (off + n)) r else none
def vbsl (sz : Nat) (xs : List AV) : Option AV := if xs.all (fun x => x.cells.length == sz) && decide (0 < sz) then some (.sl xs .full) else none
def eqCell : Nat → AV → AV → Option Bool
  | 0, .int k a, .int k' b => if k = k' then some (a == b) else none
  | 1, .bool a, .bool b => some (a == b)
  | 2, .str a, .str b => some (a.toList == b.toList)
  | _, _, _ => none
def eqCells : List Nat → List AV → List AV → Option Bool
  | [], [], [] => some true
  | k :: ks, a :: aas, b :: bs => match eqCell k a b, eqCells ks aas bs with
    | some x, some y => some (x && y)
    | _, _ => none
  | _, _, _ => none
def veqs (neg : Bool) (ks : List Nat) (x y : AV) : Option AV := match x, y with
  | .agg cs, .agg ds => match eqCells ks cs ds with | some b => some (.bool (if neg then !b else b)) | none => none
  | _, _ => none
def veqs1 (neg : Bool) (x y : AV) : Option AV := match x, y with | .bool a, .bool b => some (.bool (if neg then !(a == b) else a == b)) | _, _ => none
def bnd (x : Option AV) (d : Int) : Option Int := match x with | some (.int _ n) => some n | some _ => none | none => some d
def vslc (x : AV) (lo hi mx : Option AV) : Option AV := match x with
  | .sl xs t => match bnd lo 0, bnd hi xs.length with
    | some l, some h => if 0 ≤ l ∧ l ≤ h ∧ h ≤ xs.length then
        (match mx with
         | none => some (.sl ((xs.drop l.toNat).take (h - l).toNat) (if lo.isNone && hi.isNone then t else .no))
         | some (.int _ m) => if m = h ∧ hi.isSome = true then some (.sl ((xs.drop l.toNat).take (h - l).toNat) .full) else none
         | some _ => none) else none
    | _, _ => none
  | _ => none
def oslc (sz b n c : Nat) (lo hi mx : Option AV) : Option AV := match bnd lo 0, bnd hi n, bnd mx c with
  | some l, some h, some m => if 0 ≤ l ∧ l ≤ h ∧ h ≤ n ∧ h ≤ m ∧ m ≤ c ∧ (l = 0 ∨ l < h) ∧ (mx.isSome = true → hi.isSome = true) then
      some (if l = 0 then .osl b h.toNat m.toNat else .osx b (l.toNat * sz) (h - l).toNat (m - l).toNat) else none
  | _, _, _ => none
def vslx (sz : Nat) (x : AV) (lo hi mx : Option AV) : Option AV := match x with
  | .osl b n c => oslc sz b n c lo hi mx
  | x => vslc x lo hi mx
def clrAt : AV → Option (Nat × Nat × Nat)
  | .osl b n _ => some (b, 0, n)
  | .osx b o n _ => some (b, o, n)
  | _ => none
def vmnx (mn : Bool) : AV → List AV → Option AV
  | a, [] => some a
  | a, b :: r => match (if mn then vmin2 a b else vmax2 a b) with | some c => vmnx mn c r | none => none
def VE.evs (fr : Fr) (xs : List VE) : List AV := xs.map (·.ev fr)
def vval (o : VO) (fr : Fr) (st : St) : Option AV :=
  match o with
  | .mov x => some (x.ev fr)
  | .pick c a b => vpick (c.ev fr) (a.ev fr) (b.ev fr)
  | .build z ps => (vfill z (ps.map fun (o, n, x) => (o, n, x.ev fr))).map .agg
  | .bsl sz xs => vbsl sz (VE.evs fr xs)
  | .load n ag x => vload st (x.ev fr) n ag
  | .nchk x => vnchk (x.ev fr)
  | .bin op x y => vbin op (x.ev fr) (y.ev fr)
  | .eqs neg n x y => veqs neg n (x.ev fr) (y.ev fr)
  | .eqs1 neg x y => veqs1 neg (x.ev fr) (y.ev fr)
  | .un op x => vun op (x.ev fr)
  | .conv k x => vconv k (x.ev fr)
  | .mkf f fs cs => some (.clo f (VE.evs fr fs) (VE.evs fr cs))
  | .slc sz x lo hi mx => vslx sz (x.ev fr) (lo.map (·.ev fr)) (hi.map (·.ev fr)) (mx.map (·.ev fr))
  | .fad off x => vfad off (x.ev fr)
  | .fld off n ag x => vfld off n ag (x.ev fr)
  | .iad sz x i => viad sz (x.ev fr) (i.ev fr)
  | .iaa len sz x i => viaa len sz (x.ev fr) (i.ev fr)
  | .ixa len sz ag x i => vixa len sz ag (x.ev fr) (i.ev fr)
  | .ixs x i => vixs (x.ev fr) (i.ev fr)
  | .ext x i => vext (x.ev fr) i
  | .len x => vlen (x.ev fr)
  | .lens x => vlens (x.ev fr)
  | .mnx mn x xs => vmnx mn (x.ev fr) (VE.evs fr xs)
  | _ => none
/-! ### Out of the program's form -/
def toCell : Value → Option AV
  | .int k n => some (.int k n)
  | .bool b => some (.bool b)
  | .string s => some (.str s)
  | .pointer none => some .nilp
  | .slice none 0 0 => some (.sl [] .full)
  | .nilFunc => some .nilf
  | .map none => some .nilm
  | _ => none
def toCells : List Value → Option (List AV)
  | [] => some []
  | v :: r => match toCell v, toCells r with | some a, some aas => some (a :: aas) | _, _ => none
def toAV : Value → Option AV
  | .agg cs => (toCells cs.toList).map .agg
  | v => toCell v
theorem rep_nil (I : Im) : Rep I (.sl [] .full) (.slice none 0 0) := by
  unfold Rep
  exact ⟨none, 0, 1, rfl, Nat.le_refl _, by omega, .inl rfl, fun _ => rfl, (trivial), rfl⟩
theorem toCell_ok {I : Im} {v : Value} {a : AV} (h : toCell v = some a) : Rep I a v := by
  unfold toCell at h
  split at h
  all_goals cases h
  all_goals first
    | exact rep_nil I
    | (simp only [Rep]; done)
    | (simp only [Rep]; rfl)
theorem toCells_ok {I : Im} : ∀ {vs : List Value} {aas : List AV}, toCells vs = some aas → RepL I aas vs
  | [], aas, h => by simp [toCells] at h; subst h; simp [RepL]
  | v :: r, aas, h => by
    unfold toCells at h
    split at h
    · rename_i a aas' h1 h2
      cases h
      exact ⟨toCell_ok h1, toCells_ok h2⟩
    · cases h
theorem toAV_ok {I : Im} {v : Value} {a : AV} (h : toAV v = some a) : Rep I a v := by
  unfold toAV at h
  split at h
  · rename_i cs
    cases hc : toCells cs.toList with
    | none => rw [hc] at h; cases h
    | some aas => rw [hc] at h; cases h; simp only [Rep]; exact ⟨cs, rfl, toCells_ok hc⟩
  · exact toCell_ok h
def mget (z : AV) (ok : Bool) : Option (Option (Nat × Value)) → Option AV
  | some none => some (if ok then .tup [z, .bool false] else z)
  | some (some (_, v)) => (toCell v).map fun a => if ok then .tup [a, .bool true] else a
  | none => none
variable (P : Program) (Z : Im)
def VCalls (f : Nat) (args : List AV) (st : St) (K : AV → St → Prop) : Prop :=
  (∀ a w, (callFunc f a).run P w = .ok (.enter f a) w) ∧
  ∀ (B : Base) (I : Im) (W : World) (vs : Array Value), Z.le I → Rel B I st W → RepL I args vs.toList →
    Calls P f vs W fun e W' => ∃ u J st' v, e = .returned u ∧ I.le J ∧ Rel B J st' W' ∧ Rep J v u ∧ K v st'
def VYield (l : Nat) (args : List AV) (st : St) (K : AV → St → Prop) : Prop :=
  ∀ (B : Base) (I : Im) (W : World) (vs : Array Value), Z.le I → Rel B I st W → RepL I args vs.toList →
    YieldAt Fence.wide 0 P l vs W fun e W' => ∃ u J st' v, e = .returned u ∧ I.le J ∧ Rel B J st' W' ∧ Rep J v u ∧ K v st'
theorem VCalls.mono {P : Program} {Z : Im} {f : Nat} {args : List AV} {st : St} {K K' : AV → St → Prop} (h : VCalls P Z f args st K) (hk : ∀ v s, K v s → K' v s) : VCalls P Z f args st K' :=
  ⟨h.1, fun B I W vs hz hr ha => (h.2 B I W vs hz hr ha).mono fun _ _ ⟨u, J, st', v, h1, h2, h3, h4, h5⟩ => ⟨u, J, st', v, h1, h2, h3, h4, hk _ _ h5⟩⟩
theorem YieldAt.mono' {F : Fence} {m : Nat} {P : Program} {l : Nat} {args : Array Value} {W : World} {R R' : Ending → World → Prop} (h : YieldAt F m P l args W R) (hr : ∀ e w, R e w → R' e w) : YieldAt F m P l args W R' := by
  obtain ⟨fn, tmps, assign, body, h1, h2⟩ := h
  exact ⟨fn, tmps, assign, body, h1, h2.mono hr⟩
theorem VYield.mono {P : Program} {Z : Im} {l : Nat} {args : List AV} {st : St} {K K' : AV → St → Prop} (h : VYield P Z l args st K) (hk : ∀ v s, K v s → K' v s) : VYield P Z l args st K' :=
  fun B I W vs hz hr ha => YieldAt.mono' (h B I W vs hz hr ha) fun _ _ ⟨u, J, st', v, h1, h2, h3, h4, h5⟩ => ⟨u, J, st', v, h1, h2, h3, h4, hk _ _ h5⟩
def optK (x : Option AV) (K : AV → Prop) : Prop := match x with | some v => K v | none => False
theorem optK_out {x : Option AV} {K : AV → Prop} (h : optK x K) : ∃ v, x = some v ∧ K v := by
  cases x with
  | none => exact h.elim
  | some v => exact ⟨v, rfl, h⟩
def appA (s x : AV) (sz bytes : Nat) (st : St) (K : AV → St → Prop) : Prop := match s, x with
  | .sl xs tk, .sl ys _ => st.has sz tk = true ∧ (∀ x ∈ xs, x.cells.length = sz) ∧ (∀ y ∈ ys, okEl sz y = true) ∧ xs.length + ys.length ≤ 1000000000000 ∧ (xs.length + ys.length) * bytes ≤ 140737488355328 ∧
      ∀ t', (st.kill tk).fresh sz t' → K (.sl (xs ++ ys) t') ((st.kill tk).add t')
  | _, _ => False
def appB (s x : AV) (sz bytes : Nat) (st : St) (K : AV → St → Prop) : Prop := match s, x with
  | .sl xs .full, .sl ys _ => ys ≠ [] ∧ (∀ x ∈ xs, x.cells.length = sz) ∧ (∀ y ∈ ys, okEl sz y = true) ∧ xs.length + ys.length ≤ 1000000000000 ∧ (xs.length + ys.length) * bytes ≤ 140737488355328 ∧
      ∀ b c rest, st.objs b = none → xs.length + ys.length ≤ c → rest.length = (c - (xs.length + ys.length)) * sz → K (.osl b (xs.length + ys.length) c) (st.ins b (.cells ((xs ++ ys).flatMap AV.cells ++ rest)))
  | .osl b n c, .sl ys _ => ∃ cs, st.objs b = some (.cells cs) ∧ cs.length = c * sz ∧ (∀ y ∈ ys, okEl sz y = true) ∧ n + ys.length ≤ 1000000000000 ∧ (n + ys.length) * bytes ≤ 140737488355328 ∧
      ∀ b' c' rest, b' = b ∨ st.objs b' = none → n + ys.length ≤ c' → rest.length = (c' - (n + ys.length)) * sz → K (.osl b' (n + ys.length) c') ((st.del b).ins b' (.cells (cs.take (n * sz) ++ ys.flatMap AV.cells ++ rest)))
  | _, _ => False
theorem appA_mono {s x : AV} {sz bytes : Nat} {st : St} {K K' : AV → St → Prop} (h : appA s x sz bytes st K) (hk : ∀ v s, K v s → K' v s) : appA s x sz bytes st K' := by
  unfold appA at h ⊢
  split at h
  · obtain ⟨h1, h2, h3, h4, h5, h6⟩ := h; exact ⟨h1, h2, h3, h4, h5, fun t ht => hk _ _ (h6 t ht)⟩
  · exact h
theorem appB_mono {s x : AV} {sz bytes : Nat} {st : St} {K K' : AV → St → Prop} (h : appB s x sz bytes st K) (hk : ∀ v s, K v s → K' v s) : appB s x sz bytes st K' := by
  unfold appB at h ⊢
  split at h
  · obtain ⟨h1, h2, h3, h4, h5, h6⟩ := h; exact ⟨h1, h2, h3, h4, h5, fun b c r p q u => hk _ _ (h6 b c r p q u)⟩
  · obtain ⟨cs, h1, h2, h3, h4, h5, h6⟩ := h; exact ⟨cs, h1, h2, h3, h4, h5, fun b c r p q u => hk _ _ (h6 b c r p q u)⟩
  · exact h
def vstep (o : VO) (fr : Fr) (st : St) (K : AV → St → Prop) : Prop :=
  match o with
  | .slc sz x lo hi mx => (lo.isSome = true → match x.ev fr with | .sl xs _ => 0 < sz ∧ ∀ y ∈ xs, y.cells.length = sz | .osl _ _ _ => True | _ => False) ∧
      optK (vslx sz (x.ev fr) (lo.map (·.ev fr)) (hi.map (·.ev fr)) (mx.map (·.ev fr))) (K · st)
  | .box x => 0 < (x.ev fr).cells.length ∧ ∀ b, st.objs b = none → K (.ptr b 0) (st.ins b (.cells (x.ev fr).cells))
  | .alloc cs => ∀ b, st.objs b = none → K (.ptr b 0) (st.ins b (.cells cs))
  | .store n x v => match x.ev fr with
    | .ptr b off => match st.objs b with
      | some (.cells cs) => (v.ev fr).cells.length = n ∧ 0 < n ∧ off + n ≤ cs.length ∧ (v.ev fr).cells.all AV.isCell = true ∧ K .no (st.ins b (.cells (cs.take off ++ (v.ev fr).cells ++ cs.drop (off + n))))
      | _ => False
    | _ => False
  | .app sz bytes s x => appA (s.ev fr) (x.ev fr) sz bytes st K ∨ appB (s.ev fr) (x.ev fr) sz bytes st K
  | .call f args => VCalls P Z f (VE.evs fr args) st K
  | .callv g args => match g.ev fr with
    | .clo f fs cs => VCalls P Z f (fs ++ VE.evs fr args ++ cs) st K
    | .yld l => VYield P Z l (VE.evs fr args) st K
    | _ => False
  | .isnil neg x => match x.ev fr with
    | .sl xs _ => ∀ b : Bool, (xs ≠ [] → b = false) → K (.bool (if neg then !b else b)) st
    | _ => False
  | .mkm => ∀ b, st.objs b = none → K (.mp b) (st.ins b (.raw (.map #[] 0)))
  | .mlk str z ok x i => match x.ev fr with
    | .mp b => match st.objs b, kvalK str (i.ev fr) with
      | some (.raw (.map es _)), some k => optK (mget z ok (mfind k es.toList 0)) (K · st)
      | some (.minv p), some k => ∀ es clk, p es clk → optK (mget z ok (mfind k es.toList 0)) (K · st)
      | _, _ => False
    | _ => False
  | .mup str x i v => match x.ev fr with
    | .mp b => match st.objs b, kvalK str (i.ev fr), cval (v.ev fr) with
      | some (.raw (.map es clk)), some k, some u => match mput k u es clk with
        | some (es', clk') => K .no (st.ins b (.raw (.map es' clk')))
        | none => False
      | some (.minv p), some k, some u => (∀ es clk, p es clk → ∃ es' clk', mput k u es clk = some (es', clk') ∧ p es' clk') ∧ K .no st
      | _, _, _ => False
    | _ => False
  | .ment str z x i => match x.ev fr with
    | .mp b => match st.objs b, kvalK str (i.ev fr), cval z with
      | some (.raw (.map es clk)), some k, some zv => match mentF k zv es clk with
        | some (v, n, es', clk') => optK (toCell v) (fun a => K (.tup [a, .int .i64 n]) (st.ins b (.raw (.map es' clk'))))
        | none => False
      | _, _, _ => False
    | _ => False
  | .mst x s v => match x.ev fr, s.ev fr with
    | .mp b, .int _ n => match st.objs b, cval (v.ev fr) with
      | some (.raw (.map es clk)), some u => match msetF n u es with
        | some es' => K .no (st.ins b (.raw (.map es' clk)))
        | none => False
      | _, _ => False
    | _, _ => False
  | .clr sz x => match clrAt (x.ev fr) with
    | some (b, o, n) => match st.objs b with
      | some (.cells cs) => o + n * sz ≤ cs.length ∧ K (.tup []) (st.ins b (.cells (cs.take o ++ List.replicate (n * sz) .undef ++ cs.drop (o + n * sz))))
      | _ => False
    | none => False
  | .bad => False
  | o => optK (vval o fr st) (K · st)
def compE : Operand → Option VE
  | .tmp t => some (.t t)
  | .const v => (toAV v).map .c
  | .func f => some (.c (.clo f [] []))
  | .global g => (globs g).map fun x => .c (.iptr x 0)
def compEs : List Operand → Option (List VE)
  | [] => some []
  | x :: r => match compE x, compEs r with | some a, some aas => some (a :: aas) | _, _ => none
def compO : Option Operand → Option (Option VE)
  | none => some none
  | some x => (compE x).map some
def mark (D : Nat) : Deferred := { target := .collected D, args := #[] }
structure FrRep (I : Im) (n : Nat) (fr : Fr) (a : Act) : Prop where
  size : a.tmps.size = n
  rep : ∀ i, Rep I (fr.t i) (a.eval (.tmp i))
  defs : a.defers = fr.d.map mark
  glob : GOk I
variable {P}
section
variable {B : Base} {I : Im} {st : St} {W : World} {fr : Fr} {a : Act} {n : Nat}
theorem compE_ok (hf : FrRep I n fr a) {x : Operand} {e : VE} (h : compE x = some e) : Rep I (e.ev fr) (a.eval x) := by
  unfold compE at h
  split at h
  · cases h; exact hf.rep _
  · rename_i v
    cases hv : toAV v with
    | none => rw [hv] at h; cases h
    | some b => rw [hv] at h; cases h; exact toAV_ok hv
  · cases h; simp only [VE.ev, Rep, Act.eval]; exact ⟨#[], #[], rfl, by simp [RepL], by simp [RepL]⟩
  · rename_i g
    obtain ⟨x, hx, rfl⟩ := Option.map_eq_some_iff.1 h
    obtain ⟨u, h1, h2⟩ := hf.glob g x hx
    simp only [VE.ev, Rep]
    exact ⟨g, 0, u, rfl, h1, h2⟩
theorem compEs_ok (hf : FrRep I n fr a) : ∀ {xs : List Operand} {es : List VE}, compEs xs = some es → RepL I (VE.evs fr es) (xs.map a.eval)
  | [], es, h => by simp [compEs] at h; subst h; simp [VE.evs, RepL]
  | x :: r, es, h => by
    unfold compEs at h
    split at h
    · rename_i e es' h1 h2
      cases h
      exact ⟨compE_ok hf h1, compEs_ok hf h2⟩
    · cases h
end
end Go.Proofs.YtglekfgoadehbaaDoor.V
end
section
set_option linter.unusedSimpArgs false
set_option linter.unusedVariables false
/- Structs compared; structs and rows built; rows cut: what the program's own operations yield. -/
namespace Go.Proofs.YtglekfgoadehbaaDoor.V
open Go Go.RowKit
variable {P : Program}
def fsShape (P : Program) (g : TypeId → Option (List Nat)) : List Field → Nat → Option (List Nat)
  | [], _ => some []
  | f :: r, o => if f.name ≠ "_" ∧ f.offset = o then match g f.type with
      | some ks => if (P.info? f.type).map (·.size) = some ks.length then match fsShape P g r (o + ks.length) with
        | some l => some (ks ++ l)
        | none => none else none
      | none => none else none
def eqShape (P : Program) : Nat → TypeId → Option (List Nat)
  | 0, _ => none
  | d + 1, t => match P.underlying t with
    | some (.int _) => some [0]
    | some .bool => some [1]
    | some .string => some [2]
    | some (.struct fs) => if P.stoodInHeld t = false then fsShape P (eqShape P d) fs.toList 0 else none
    | _ => none
theorem eqCells_cons {k : Nat} {ks : List Nat} {cs ds : List AV} {r : Bool} (h : eqCells (k :: ks) cs ds = some r) : ∃ a aas b bs x y, cs = a :: aas ∧ ds = b :: bs ∧ eqCell k a b = some x ∧ eqCells ks aas bs = some y ∧ r = (x && y) := by
  cases cs with
  | nil => simp [eqCells] at h
  | cons a aas => cases ds with
    | nil => simp [eqCells] at h
    | cons b bs =>
      simp only [eqCells] at h
      split at h
      · rename_i x y h1 h2; cases h; exact ⟨a, aas, b, bs, x, y, rfl, rfl, h1, h2, rfl⟩
      · cases h
theorem eqCells_nil {cs ds : List AV} {r : Bool} (h : eqCells [] cs ds = some r) : cs = [] ∧ ds = [] ∧ r = true := by
  cases cs <;> cases ds <;> simp_all [eqCells]
theorem eqCells_append : ∀ {ks ls : List Nat} {cs ds : List AV} {r : Bool}, eqCells (ks ++ ls) cs ds = some r →
    ∃ r1 r2, eqCells ks (cs.take ks.length) (ds.take ks.length) = some r1 ∧ eqCells ls (cs.drop ks.length) (ds.drop ks.length) = some r2 ∧ r = (r1 && r2)
  | [], ls, cs, ds, r, h => ⟨true, r, by simp [eqCells], by simpa using h, by simp⟩
  | k :: ks, ls, cs, ds, r, h => by
    obtain ⟨a, aas, b, bs, x, y, rfl, rfl, h1, h2, rfl⟩ := eqCells_cons h
    obtain ⟨r1, r2, e1, e2, rfl⟩ := eqCells_append h2
    exact ⟨x && r1, r2, by simp [eqCells, h1, e1], by simpa using e2, by rw [Bool.and_assoc]⟩
theorem eqCells_length : ∀ {ks : List Nat} {cs ds : List AV} {r : Bool}, eqCells ks cs ds = some r → cs.length = ks.length ∧ ds.length = ks.length
  | [], cs, ds, r, h => by obtain ⟨rfl, rfl, _⟩ := eqCells_nil h; simp
  | k :: ks, cs, ds, r, h => by
    obtain ⟨a, aas, b, bs, x, y, rfl, rfl, h1, h2, rfl⟩ := eqCells_cons h
    have := eqCells_length h2; simp; omega
def mkVal (row : Bool) (vs : List Value) : Value := if row then .agg vs.toArray else vs.getD 0 undef
theorem run_part_mk {W : World} {t : TypeId} {d : TypeDesc} (hu : P.underlying t = some d) {n : Nat} (hi : (P.info? t).map (·.size) = some n) (hn : d.isRow = false → n = 1) {vs : List Value} {off : Nat} (hl : off + n ≤ vs.length) :
    (part t vs.toArray off).run P W = .ok (mkVal d.isRow ((vs.drop off).take n)) W := by
  cases hq : P.info? t with
  | none => simp [hq] at hi
  | some i =>
    have hs : i.size = n := by simpa [hq] using hi
    cases hd : d.isRow with
    | true =>
      have hagg : (isAgg t).run P W = .ok true W := by
        unfold isAgg
        rw [Sem.run_bind, run_underlying hu W]
        cases d <;> simp_all
      simp [part, hagg, sizeOf, typeInfo, hq, go_sem, mkVal, hs, List.extract_eq_take_drop]
    | false =>
      have hagg : (isAgg t).run P W = .ok false W := by
        unfold isAgg
        rw [Sem.run_bind, run_underlying hu W]
        cases d <;> simp_all
      have h1 := hn hd
      subst h1
      have : off < vs.length := by omega
      simp [part, hagg, go_sem, mkVal, this, List.getElem?_take, List.getElem?_drop]
theorem equalIn_ok {I : Im} {W : World} : ∀ (d D : Nat) (t : TypeId) (ks : List Nat), eqShape P d t = some ks → ∀ (dd : TypeDesc), P.underlying t = some dd → (dd.isRow = false → ks.length = 1) ∧ ∀ (cs ds : List AV) (vs us : List Value), RepL I cs vs → RepL I ds us → ∀ r, eqCells ks cs ds = some r →
    (Op.equalIn (d + D) t (mkVal dd.isRow vs) (mkVal dd.isRow us)).run P W = .ok r W
  | 0, _, _, _, h => by simp [eqShape] at h
  | d + 1, D, t, ks, h => by
    intro dd hdd
    unfold eqShape at h
    rw [hdd] at h
    rw [show d + 1 + D = (d + D) + 1 by omega]
    split at h
    · cases h
      rename_i k hk; cases hk
      refine ⟨fun _ => rfl, fun cs ds vs us hr hs r he => ?_⟩
      obtain ⟨a, aas, b, bs, x, y, rfl, rfl, h1, h2, rfl⟩ := eqCells_cons he
      obtain ⟨rfl, rfl, rfl⟩ := eqCells_nil h2
      cases vs with
      | nil => exact hr.elim
      | cons v vs => cases us with
        | nil => exact hs.elim
        | cons u us =>
          have h3 := hr.1; have h4 := hs.1
          unfold eqCell at h1
          split at h1 <;> try (first | (simp at *; done) | (cases h1; done))
          simp only [Rep] at h3 h4
          subst h3 h4
          simp only [mkVal, TypeDesc.isRow, Bool.false_eq_true, if_false, List.getD_cons_zero]
          obtain ⟨rfl, rfl⟩ := ite_some h1
          rw [run_equalIn_int W _ t _ _ _ _ hdd]; simp
    · cases h
      rename_i hk; cases hk
      refine ⟨fun _ => rfl, fun cs ds vs us hr hs r he => ?_⟩
      obtain ⟨a, aas, b, bs, x, y, rfl, rfl, h1, h2, rfl⟩ := eqCells_cons he
      obtain ⟨rfl, rfl, rfl⟩ := eqCells_nil h2
      cases vs with
      | nil => exact hr.elim
      | cons v vs => cases us with
        | nil => exact hs.elim
        | cons u us =>
          have h3 := hr.1; have h4 := hs.1
          unfold eqCell at h1
          split at h1 <;> try (first | (simp at *; done) | (cases h1; done))
          simp only [Rep] at h3 h4
          subst h3 h4
          simp only [mkVal, TypeDesc.isRow, Bool.false_eq_true, if_false, List.getD_cons_zero]
          cases h1
          rw [run_equalIn_bool' W _ t _ _ hdd]; simp
    · cases h
      rename_i hk; cases hk
      refine ⟨fun _ => rfl, fun cs ds vs us hr hs r he => ?_⟩
      obtain ⟨a, aas, b, bs, x, y, rfl, rfl, h1, h2, rfl⟩ := eqCells_cons he
      obtain ⟨rfl, rfl, rfl⟩ := eqCells_nil h2
      cases vs with
      | nil => exact hr.elim
      | cons v vs => cases us with
        | nil => exact hs.elim
        | cons u us =>
          have h3 := hr.1; have h4 := hs.1
          unfold eqCell at h1
          split at h1 <;> try (first | (simp at *; done) | (cases h1; done))
          simp only [Rep] at h3 h4
          subst h3 h4
          simp only [mkVal, TypeDesc.isRow, Bool.false_eq_true, if_false, List.getD_cons_zero]
          cases h1
          rw [run_equalIn_string W _ t _ _ hdd]; simp
    · rename_i fs hk
      cases hk
      split at h
      · rename_i hst
        refine ⟨fun e => by simp at e, fun cs ds vs us hr hs r he => ?_⟩
        have hfs : P.fieldsOf t = fs := by simp [Program.fieldsOf, hdd]
        simp only [mkVal, TypeDesc.isRow, if_true]
        rw [run_equalIn_struct W (d + D) t _ _ (by rw [hfs]; exact hdd) hst, hfs]
        have key : ∀ (fl : List Field) (o : Nat) (ls : List Nat) (r : Bool), fsShape P (eqShape P d) fl o = some ls → eqCells ls (cs.drop o) (ds.drop o) = some r → o ≤ cs.length → o ≤ ds.length →
            (Op.eqFields (d + D) vs.toArray us.toArray fl).run P W = .ok r W := by
          intro fl
          induction fl with
          | nil =>
            intro o ls r h1 h2 _ _
            simp [fsShape] at h1; subst h1
            obtain ⟨_, _, rfl⟩ := eqCells_nil h2
            simp [Op.eqFields]
          | cons f fl ih =>
            intro o ls r h1 h2 ho1 ho2
            unfold fsShape at h1
            split at h1
            · rename_i hc
              obtain ⟨hname, hoff⟩ := hc
              split at h1
              · rename_i ks' hks
                split at h1
                · rename_i hsz
                  split at h1
                  · rename_i l hl
                    cases h1
                    obtain ⟨r1, r2, e1, e2, e3⟩ := eqCells_append h2
                    rw [List.drop_drop, List.drop_drop] at e2
                    cases hfu : P.underlying f.type with
                    | none =>
                      cases d with
                      | zero => simp [eqShape] at hks
                      | succ d => simp [eqShape, hfu] at hks
                    | some fd =>
                      obtain ⟨hn1, heq⟩ := equalIn_ok (I := I) (W := W) d D f.type ks' hks fd hfu
                      have hl1 : o + ks'.length ≤ cs.length ∧ o + ks'.length ≤ ds.length := by
                        have := eqCells_length e1
                        simp at this; omega
                      have hvl := hr.length
                      have hul := hs.length
                      have hp1 := run_part_mk (W := W) hfu hsz hn1 (vs := vs) (off := o) (by omega)
                      have hp2 := run_part_mk (W := W) hfu hsz hn1 (vs := us) (off := o) (by omega)
                      have hq := heq _ _ _ _ ((hr.drop o).take ks'.length) ((hs.drop o).take ks'.length) r1 e1
                      simp only [Op.eqFields, ne_eq, hname, not_false_eq_true, if_true, Sem.run_bind, hoff, hp1, hp2, Result.andThen_ok, hq]
                      cases r1 with
                      | false => simp [e3]
                      | true =>
                        simp only [Bool.not_true, Bool.false_eq_true, if_false]
                        rw [e3, Bool.true_and]
                        exact ih (o + ks'.length) l r2 hl e2 hl1.1 hl1.2
                  · cases h1
                · cases h1
              · cases h1
            · cases h1
        exact key fs.toList 0 ks r h (by simpa using he) (Nat.zero_le _) (Nat.zero_le _)
      · cases h
    · cases h
end Go.Proofs.YtglekfgoadehbaaDoor.V
end
section
set_option linter.unusedSimpArgs false
set_option linter.unusedVariables false
/- What the program's own operations yield, where they leave the state alone. -/
namespace Go.Proofs.YtglekfgoadehbaaDoor.V
open Go Go.RowKit
variable {P : Program}
theorem foldl_set : ∀ (l : List Value) (k off : Nat) (cs : Array Value), off + k + l.length ≤ cs.size →
    ((l.zipIdx k).foldl (fun cs (x : Value × Nat) => cs.setIfInBounds (off + x.2) x.1) cs).toList = cs.toList.take (off + k) ++ l ++ cs.toList.drop (off + k + l.length)
  | [], k, off, cs, _ => by simp
  | v :: l, k, off, cs, h => by
    simp only [List.length_cons] at h
    rw [List.zipIdx_cons, List.foldl_cons, foldl_set l (k + 1) off _ (by simp; omega)]
    have hlt : off + k < cs.toList.length := by simp; omega
    have e1 : (cs.toList.set (off + k) v).take (off + (k + 1)) = cs.toList.take (off + k) ++ [v] := by
      rw [show off + (k + 1) = off + k + 1 by omega, List.take_add_one, List.take_set_of_le (Nat.le_refl _), List.getElem?_set_self hlt]; rfl
    have e2 : (cs.toList.set (off + k) v).drop (off + (k + 1) + l.length) = cs.toList.drop (off + k + (v :: l).length) := by
      rw [List.drop_set_of_lt (by omega)]; congr 1; simp; omega
    simp only [Array.toList_setIfInBounds, e1, e2]
    simp
theorem fill_ok {I : Im} (place : Nat → Option (Nat × Nat)) : ∀ (parts : List (Nat × Value)) (ps : List (Nat × Nat × AV)) (cs cs' : List AV) (vs : Array Value),
    RepL I cs vs.toList → parts.length = ps.length → (∀ (j : Nat) (p : Nat × Value) (q : Nat × Nat × AV), parts[j]? = some p → ps[j]? = some q → place p.1 = some (q.1, q.2.1) ∧ Rep I q.2.2 p.2) → vfill cs ps = some cs' → ∃ vs', Instr.fill place vs parts = some vs' ∧ RepL I cs' vs'.toList
  | [], [], cs, cs', vs, hr, _, _, h => by simp [vfill] at h; subst h; exact ⟨vs, rfl, hr⟩
  | (i, u) :: parts, (off, n, x) :: ps, cs, cs', vs, hr, hl, hp, h => by
    unfold vfill at h
    split at h
    · rename_i hc
      obtain ⟨h1, h2, h3⟩ := hc
      obtain ⟨hpl, hx⟩ := hp 0 (i, u) (off, n, x) rfl rfl
      have hx : Rep I x u := hx
      have hxc := hx.cells' (by omega)
      have hul : u.cells.size = n := by have := hxc.length; simp at this; omega
      have hvl : vs.size = cs.length := by have := hr.length; simpa using this
      unfold Instr.fill
      simp only at hpl
      rw [hpl]
      simp only
      have hcond : ¬ ((decide (u.cells.size ≠ n) || decide (off + u.cells.size > vs.size)) = true) := by rw [hul, hvl]; simp; omega
      rw [if_neg hcond]
      have hfold := foldl_set u.cells.toList 0 off vs (by simp; omega)
      have hz : u.cells.zipIdx.foldl (fun cs (c, j) => cs.setIfInBounds (off + j) c) vs = (u.cells.toList.zipIdx 0).foldl (fun cs (x : Value × Nat) => cs.setIfInBounds (off + x.2) x.1) vs := by
        rw [← Array.foldl_toList]; simp
      rw [hz]
      refine fill_ok place parts ps _ cs' _ ?_ (by simpa using hl) (fun j p q h1 h2 => hp (j + 1) p q (by simpa using h1) (by simpa using h2)) h
      rw [hfold]
      simp only [Nat.add_zero]
      have : u.cells.toList.length = n := by simpa using hul
      rw [this]
      exact ((hr.take off).append hxc).append (hr.drop (off + n))
    · cases h
  | [], _ :: _, _, _, _, _, h, _, _ => by simp at h
  | _ :: _, [], _, _, _, _, h, _, _ => by simp at h
def placeOf (P : Program) (t : TypeId) : Option (Nat → Option (Nat × Nat)) :=
  match P.underlying t with
  | some (.array _ e) => match P.info? e with | some ie => some (fun i => some (i * ie.size, ie.size)) | none => none
  | some (.struct fields) => match fields.toList.mapM (fun f => (P.info? f.type).map fun i => (f.offset, i.size)) with | some places => some (places.toArray[·]?) | none => none
  | _ => none
def compParts (place : Nat → Option (Nat × Nat)) : List (Nat × Operand) → Option (List (Nat × Nat × VE))
  | [] => some []
  | (i, x) :: r => match place i, compE x, compParts place r with
    | some (off, n), some e, some es => some ((off, n, e) :: es)
    | _, _, _ => none
theorem compParts_ok {I : Im} {n : Nat} {fr : Fr} {a : Act} (hf : FrRep I n fr a) {place : Nat → Option (Nat × Nat)} : ∀ {parts : List (Nat × Operand)} {es : List (Nat × Nat × VE)}, compParts place parts = some es →
    parts.length = es.length ∧ ∀ (j : Nat) (p : Nat × Value) (q : Nat × Nat × AV), (parts.map fun (i, x) => (i, a.eval x))[j]? = some p → (es.map fun (o, n, x) => (o, n, x.ev fr))[j]? = some q → place p.1 = some (q.1, q.2.1) ∧ Rep I q.2.2 p.2
  | [], es, h => by simp [compParts] at h; subst h; simp
  | (i, x) :: r, es, h => by
    unfold compParts at h
    split at h
    · rename_i off m e es' h1 h2 h3
      cases h
      obtain ⟨hl, hr⟩ := compParts_ok hf h3
      refine ⟨by simp [hl], fun j p q hp hq => ?_⟩
      cases j with
      | zero => simp at hp hq; subst hp hq; exact ⟨h1, compE_ok hf h2⟩
      | succ j => exact hr j p q (by simpa using hp) (by simpa using hq)
    · cases h
theorem built_of {t : TypeId} {it : TypeInfo} {z : Value} {place : Nat → Option (Nat × Nat)} (hi : P.info? t = some it) (hz : it.zero = some z) (hp : placeOf P t = some place) (parts : List (Nat × Value)) : P.built t parts = Instr.fill place z.cells parts := by
  unfold placeOf at hp
  unfold Program.built
  rw [hi]
  cases hu : P.underlying t with
  | none => rw [hu] at hp; cases hp
  | some d =>
    rw [hu] at hp
    cases d <;> simp only at hp <;> try (cases hp; done)
    · rename_i len e
      split at hp
      · rename_i ie hie; cases hp; simp [hz, hie]
      · cases hp
    · rename_i fields
      split at hp
      · rename_i places hpl; cases hp; simp only [hz, hpl]
      · cases hp
theorem vmnx_ok {I : Im} {W : World} (mn : Bool) : ∀ (xs : List AV) (us : List Value) (x v : AV) (u : Value), RepL I xs us → Rep I x u → vmnx mn x xs = some v →
    ∃ z, (us.foldlM (if mn then Builtin.min2 else Builtin.max2) u).run P W = .ok z W ∧ Rep I v z
  | [], [], x, v, u, _, hx, h => by simp [vmnx] at h; subst h; exact ⟨u, by simp, hx⟩
  | y :: xs, w :: us, x, v, u, hr, hx, h => by
    unfold vmnx at h
    split at h
    · rename_i c hc
      have : ∃ z, ((if mn then Builtin.min2 else Builtin.max2) u w).run P W = .ok z W ∧ Rep I c z := by
        have hy := hr.1
        cases mn with
        | true =>
          simp only [if_true] at hc ⊢
          unfold vmin2 at hc
          split at hc
          · cases hc; simp only [Rep] at hx hy; subst hx hy; rename_i k a k' b; exact ⟨.int k (min a b), by simp [Builtin.min2, Int.min_def]; split <;> split <;> omega, by simp only [Rep]⟩
          · cases hc
        | false =>
          simp only [Bool.false_eq_true, if_false] at hc ⊢
          unfold vmax2 at hc
          split at hc
          · cases hc; simp only [Rep] at hx hy; subst hx hy; rename_i k a k' b; exact ⟨.int k (max a b), by simp [Builtin.max2, Int.max_def]; split <;> split <;> omega, by simp only [Rep]⟩
          · cases hc
      obtain ⟨z, hz, hcz⟩ := this
      obtain ⟨z2, hz2, hr2⟩ := vmnx_ok mn xs us c v z hr.2 hcz h
      exact ⟨z2, by rw [List.foldlM_cons, Sem.run_bind, hz]; exact hz2, hr2⟩
    · cases h
  | [], _ :: _, _, _, _, h, _, _ => h.elim
  | _ :: _, [], _, _, _, h, _, _ => h.elim
end Go.Proofs.YtglekfgoadehbaaDoor.V
end
section
set_option linter.unusedSimpArgs false
set_option linter.unusedVariables false
/- The program's own operations, compiled; what they yield. -/
namespace Go.Proofs.YtglekfgoadehbaaDoor.V
open Go Go.RowKit
def compOp (P : Program) (o : Oper) : Option VO := match o.op with
  | .panic _ => some .bad
  | .makeInterface _ _ => some .bad
  | .move x => (compE x).map .mov
  | .assign x => (compE x).map .mov
  | .pick c a b => match compE c, compE a, compE b with | some c, some a, some b => some (.pick c a b) | _, _, _ => none
  | .alloc e => match P.info? e with
    | some i => match i.zero with
      | some z => (toCells z.cells.toList).map .alloc
      | none => none
    | none => none
  | .box _ x => (compE x).map .box
  | .build t parts => match P.info? t with
    | some i => match i.zero, placeOf P t with
      | some z, some place => match toCells z.cells.toList, compParts place parts.toList with
        | some zc, some ps => some (.build zc ps)
        | _, _ => none
      | _, _ => none
    | none => none
  | .buildSlice t len parts => match P.underlying t with
    | some (.slice e) => match P.info? e with
      | some i => if i.zero.isSome = true ∧ 0 < i.size ∧ len * i.size ≤ 16777216 ∧ parts.toList.map (·.1) = List.range len then (compEs (parts.toList.map (·.2))).map (.bsl i.size) else none
      | none => none
    | _ => none
  | .load t x => match P.underlying t, P.info? t, compE x with | some d, some i, some e => some (.load i.size d.isRow e) | _, _, _ => none
  | .store t x y => match P.info? t, compE x, compE y with | some i, some e, some f => some (.store i.size e f) | _, _, _ => none
  | .nilCheck x => (compE x).map .nchk
  | .binOp op t x y _ => match compE x, compE y with
    | some e, some f => match P.underlying t with
      | some (.struct _) => if P.eqGuardType P.depth t = false then match op, eqShape P 8 t with
          | .eql, some ks => some (.eqs false ks e f)
          | .neq, some ks => some (.eqs true ks e f)
          | _, _ => none else none
      | some (.int _) => some (.bin op e f)
      | some .string => some (.bin op e f)
      | some .bool => match op with
        | .eql => some (.eqs1 false e f)
        | .neq => some (.eqs1 true e f)
        | _ => none
      | some (.slice _) => match op, y with
        | .eql, .const (.slice none 0 0) => some (.isnil false e)
        | .neq, .const (.slice none 0 0) => some (.isnil true e)
        | _, _ => none
      | _ => none
    | _, _ => none
  | .unOp op _ x => (compE x).map (.un op)
  | .convert s d x => match P.underlying s, P.underlying d, compE x with | some (.int _), some (.int k), some e => some (.conv k e) | _, _, _ => none
  | .makeFunc (.func f) fs cs => match compEs fs.toList, compEs cs.toList with | some a, some b => some (.mkf f a b) | _, _ => none
  | .slice t x lo hi mx => match P.underlying t with
    | some (.slice el) => match P.info? el with
      | some i => match compE x, compO lo, compO hi, compO mx with | some e, some l, some h, some m => some (.slc i.size e l h m) | _, _, _, _ => none
      | none => none
    | _ => none
  | .fieldAddr t x f => match P.underlying t, compE x with
    | some (.struct fs), some e => match fs[f]? with
      | some fd => match P.info? fd.type with | some i => if i.size ≠ 0 then some (.fad fd.offset e) else none | none => none
      | none => none
    | _, _ => none
  | .field t x f => match P.underlying t, compE x with
    | some (.struct fs), some e => match fs[f]? with
      | some fd => match P.underlying fd.type, P.info? fd.type with | some d, some i => some (.fld fd.offset i.size d.isRow e) | _, _ => none
      | none => none
    | _, _ => none
  | .indexAddr t x y => match P.underlying t, compE x, compE y with
    | some (.slice e), some a, some b => match P.info? e with | some i => some (.iad i.size a b) | none => none
    | some (.array len e), some a, some b => match P.info? e with | some i => some (.iaa len i.size a b) | none => none
    | _, _, _ => none
  | .index t x y => match P.underlying t, compE x, compE y with
    | some (.array len e), some a, some b => match P.underlying e, P.info? e with | some d, some i => some (.ixa len i.size d.isRow a b) | _, _ => none
    | some .string, some a, some b => some (.ixs a b)
    | _, _, _ => none
  | .extract x i => (compE x).map (.ext · i)
  | .makeMap _ none => some .mkm
  | .lookup t x y ok => match P.underlying t, compE x, compE y with
    | some (.map kt et), some a, some b => match P.underlying kt, P.info? et with
      | some kd, some i => match i.zero with
        | some z => match toCell z with
          | some zc => if keyD true kd = true then some (.mlk true zc ok a b) else if keyD false kd = true then some (.mlk false zc ok a b) else none
          | none => none
        | none => none
      | _, _ => none
    | _, _, _ => none
  | .mapUpdate t x y v => match P.underlying t, compE x, compE y, compE v with
    | some (.map kt _), some a, some b, some c => match P.underlying kt with
      | some kd => if keyD true kd = true then some (.mup true a b c) else if keyD false kd = true then some (.mup false a b c) else none
      | none => none
    | _, _, _, _ => none
  | .mapEntry t x y => match P.underlying t, compE x, compE y with
    | some (.map kt et), some a, some b => match P.underlying kt, P.info? et with
      | some kd, some i => match i.zero with
        | some z => match toCell z with
          | some zc => if keyD true kd = true then some (.ment true zc a b) else if keyD false kd = true then some (.ment false zc a b) else none
          | none => none
        | none => none
      | _, _ => none
    | _, _, _ => none
  | .entryStore _ x y v => match compE x, compE y, compE v with
    | some a, some b, some c => some (.mst a b c)
    | _, _, _ => none
  | .call c => match c.callee with
    | .value (.func f) => (compEs c.args.toList).map (.call f)
    | .value g => match compE g, compEs c.args.toList with | some e, some es => some (.callv e es) | _, _ => none
    | .builtin .len => match c.args.toList, c.argTypes.toList with
      | [x], [t] => match P.underlying t, compE x with
        | some (.slice _), some e => some (.len e)
        | some .string, some e => some (.lens e)
        | _, _ => none
      | _, _ => none
    | .builtin .min => match compEs c.args.toList with | some (x :: xs) => some (.mnx true x xs) | _ => none
    | .builtin .max => match compEs c.args.toList with | some (x :: xs) => some (.mnx false x xs) | _ => none
    | .builtin .clear => match c.args.toList, c.argTypes.toList with
      | [x], [t] => match P.underlying t, compE x with
        | some (.slice e), some a => match P.info? e with
          | some i => match i.zero with
            | some z => if z.cells.size = i.size ∧ z.cells.toList.all Value.oneCell' = true then some (.clr i.size a) else none
            | none => none
          | none => none
        | _, _ => none
      | _, _ => none
    | .builtin .append => match c.args.toList, c.argTypes.toList with
      | [x, y], [t, t'] => if t = t' then match P.underlying t, compE x, compE y with
        | some (.slice e), some a, some b => match P.info? e with
          | some i => if 0 < i.size ∧ i.zero.isSome = true ∧ i.zero.map (·.cells.size) = some i.size then some (.app i.size i.bytes a b) else none
          | none => none
        | _, _, _ => none else none
      | _, _ => none
    | _ => none
  | _ => none
variable {P : Program}
theorem bnd_ok {I : Im} {n : Nat} {fr : Fr} {a : Act} (hf : FrRep I n fr a) {x : Option Operand} {e : Option VE} {dflt r : Int} (hc : compO x = some e) (hb : bnd (e.map (·.ev fr)) dflt = some r) :
    (x = none ∧ e = none ∧ r = dflt) ∨ ∃ y k, x = some y ∧ e.isSome = true ∧ a.eval y = .int k r := by
  cases x with
  | none => simp [compO] at hc; subst hc; simp [bnd] at hb; exact .inl ⟨rfl, rfl, hb.symm⟩
  | some y =>
    simp only [compO, Option.map_eq_some_iff] at hc
    obtain ⟨e', he, rfl⟩ := hc
    have hr := compE_ok hf he
    simp only [Option.map_some, bnd] at hb
    split at hb
    · rename_i k n' h
      cases hb
      simp only [Option.some.injEq] at h
      rw [h] at hr; simp only [Rep] at hr
      exact .inr ⟨y, k, rfl, rfl, hr⟩
    · cases hb
    · rename_i h; cases h
end Go.Proofs.YtglekfgoadehbaaDoor.V
end
section
set_option linter.unusedSimpArgs false
set_option linter.unusedVariables false
/- The operations that leave the state alone: they yield what is said. -/
namespace Go.Proofs.YtglekfgoadehbaaDoor.V
open Go Go.RowKit
variable {P : Program}
theorem sliceBound_ok {W : World} {v : Value} {k : IntKind} {L : Nat} (h : v = .int k (L : Nat)) (y : Nat) (code : BoundsCode) (hy : L ≤ y) : (Instr.sliceBound v y code).run P W = .ok L W := by
  subst h
  simp only [Instr.sliceBound, asIntOf, Sem.run_bind, Sem.run_pure, Result.andThen_ok]
  rw [if_pos (by omega)]; simp
theorem slice_ok {I : Im} {W : World} {n : Nat} {fr : Fr} {a : Act} (hf : FrRep I n fr a) {t e : TypeId} {i : TypeInfo} (ht : P.underlying t = some (.slice e)) (hi : P.info? e = some i) {x : Operand} {lo hi' mx : Option Operand} {ex : VE} {el eh em : Option VE}
    (hx : compE x = some ex) (hlo : compO lo = some el) (hhi : compO hi' = some eh) (hmx : compO mx = some em) {v : AV} (h : vslc (ex.ev fr) (el.map (·.ev fr)) (eh.map (·.ev fr)) (em.map (·.ev fr)) = some v)
    (hsize : lo.isSome = true → ∀ xs tk, ex.ev fr = .sl xs tk → 0 < i.size ∧ ∀ x ∈ xs, x.cells.length = i.size) :
    ∃ z, (Instr.sliceAt t (a.eval x) (lo.map a.eval) (hi'.map a.eval) (mx.map a.eval)).run P W = .ok z W ∧ Rep I v z := by
  have hrx := compE_ok hf hx
  unfold vslc at h
  split at h
  case h_2 => cases h
  rename_i xs tk hxe
  have hsz := fun hs => hsize hs xs tk hxe
  rw [hxe] at hrx
  split at h
  case h_2 => cases h
  rename_i l hh hl1 hh1
  split at h
  case isFalse => cases h
  rename_i hle
  simp only [Rep] at hrx
  obtain ⟨ad, c, sz, hav, h1, h2, h3, h4, h5, h6⟩ := hrx
  have hszi : lo.isSome = true → xs ≠ [] → sz = i.size := fun hs hne => by
    have hsz := hsz hs
    cases xs with
    | nil => exact absurd rfl hne
    | cons y ys =>
      rcases h3 with h3 | ⟨b, o, e1, hR⟩
      · cases h3
      · simp only [RepR] at hR
        obtain ⟨⟨u, r1, r2, _⟩, _⟩ := hR
        have hy := hsz.2 y (by simp)
        have := (r1.cells' (by omega)).length
        simp at this; omega
  have hsizeOf : (sizeOf e).run P W = .ok i.size W := by simp [sizeOf, typeInfo, hi]
  have hl := bnd_ok hf hlo hl1
  have hh := bnd_ok hf hhi hh1
  obtain ⟨hl0, hlh, hhn⟩ := hle
  obtain ⟨L, rfl⟩ := Int.eq_ofNat_of_zero_le hl0
  obtain ⟨H, rfl⟩ := Int.eq_ofNat_of_zero_le (Int.le_trans hl0 hlh)
  have hLH : L ≤ H := by omega
  have hHn : H ≤ xs.length := by omega
  have hrepr : ∀ (tk' : Tok) (ad' : Option Addr) (c' : Nat), (H - L ≤ c') → (ad' = none → c' = 0) → True → (L < H → ∃ b o, ad = some ⟨b, o, none⟩ ∧ ad' = some ⟨b, o + L * i.size, none⟩) → tokOk tk' ad' sz (H - L) c' →
      Rep I (.sl ((xs.drop L).take (H - L)) tk') (.slice ad' (H - L) c') := fun tk' ad' c' q1 q2 q3 q4 q5 => by
    have hlen : ((xs.drop L).take (H - L)).length = H - L := by simp; omega
    simp only [Rep]
    refine ⟨ad', c', sz, by rw [hlen], by rw [hlen]; exact q1, h2, ?_, q2, q3, by rw [hlen]; exact q5⟩
    by_cases hlt : L < H
    · obtain ⟨b, o, rfl, rfl⟩ := q4 hlt
      have hne : xs ≠ [] := by intro e; subst e; simp at hHn; omega
      rcases h3 with h3 | ⟨b', o', e1, hR⟩
      · exact absurd h3 hne
      · cases e1
        by_cases hL0 : L = 0
        · subst hL0; exact .inr ⟨b, _, rfl, by simpa using hR.take (H - 0)⟩
        · have := hszi (by rcases hl with ⟨_, _, e0⟩ | ⟨_, _, e0, _⟩; omega; rw [e0]; rfl) hne
          subst this
          exact .inr ⟨b, _, rfl, (hR.drop L).take (H - L)⟩
    · left
      have : H - L = 0 := by omega
      rw [this]; rfl
  cases hmm : em.map (·.ev fr) with
  | none =>
    rw [hmm] at h
    simp only [Option.some.injEq] at h
    subst h
    have hmn : mx = none := by
      cases mx with
      | none => rfl
      | some m => simp only [compO, Option.map_eq_some_iff] at hmx; obtain ⟨e', _, rfl⟩ := hmx; simp at hmm
    subst hmn
    have hb : (Instr.sliceBounds true xs.length c (lo.map a.eval) (hi'.map a.eval) (Option.map a.eval none)).run P W = .ok (L, H, c) W := by
      unfold Instr.sliceBounds
      rcases hl with ⟨rfl, rfl, e0⟩ | ⟨y', k, rfl, _, e0⟩ <;> rcases hh with ⟨rfl, rfl, e1⟩ | ⟨y2, k2, rfl, _, e1⟩
      · have h1 : L = 0 := by omega
        have h2 : H = xs.length := by omega
        subst h1 h2
        simp
      · have h1 : L = 0 := by omega
        subst h1
        simp [Sem.run_bind, sliceBound_ok e1 c .sliceAcap (by omega)]
      · have h2 : H = xs.length := by omega
        subst h2
        simp [Sem.run_bind, sliceBound_ok e0 xs.length .sliceB hLH]
      · simp [Sem.run_bind, sliceBound_ok e0 H .sliceB hLH, sliceBound_ok e1 c .sliceAcap (by omega)]
    refine ⟨.slice (if c = L then ad else ad.map (·.add (L * i.size))) (H - L) (c - L), ?_, ?_⟩
    · simp only [Instr.sliceAt, Instr.slice, Sem.run_bind, run_underlying ht, Result.andThen_ok, hav, hb, hsizeOf, Sem.run_pure]
    · have e1 : ((L : Nat) : Int).toNat = L := by simp
      have e2 : (((H : Nat) : Int) - (L : Nat)).toNat = H - L := by omega
      show Rep I (.sl ((xs.drop ((L : Nat) : Int).toNat).take (((H : Nat) : Int) - (L : Nat)).toNat) _) _
      rw [e1, e2]
      refine hrepr _ _ _ (by omega) (fun e0 => ?_) trivial (fun hlt => ?_) ?_
      · split at e0
        · omega
        · cases ad with
          | none => have := h4 rfl; omega
          | some d => cases e0
      · have hcL : c ≠ L := by omega
        rcases h3 with rfl | ⟨b', o', e1, hR⟩
        · simp at hHn; omega
        · exact ⟨b', o', e1, by rw [if_neg hcL, e1, Option.map_some, addr_add]⟩
      · split
        · rename_i hnn
          simp only [Bool.and_eq_true, Option.isNone_iff_eq_none] at hnn
          have hLn : el = none := by cases el <;> simp_all
          have hHn' : eh = none := by cases eh <;> simp_all
          have hL0 : L = 0 := by
            rcases hl with ⟨_, _, e0⟩ | ⟨_, _, _, e0, _⟩
            · omega
            · rw [hLn] at e0; cases e0
          have hHx : H = xs.length := by
            rcases hh with ⟨_, _, e0⟩ | ⟨_, _, _, e0, _⟩
            · omega
            · rw [hHn'] at e0; cases e0
          subst hL0
          rw [hHx]
          have : (if c = 0 then ad else ad.map (·.add (0 * i.size))) = ad := by
            split
            · rfl
            · cases ad <;> simp [Addr.add]
          rw [this]; exact h6
        · trivial
  | some m =>
    rw [hmm] at h
    cases m <;> simp only at h <;> try (cases h; done)
    rename_i k M
    obtain ⟨hMH, rfl⟩ := ite_some h
    obtain ⟨hMH, hsome⟩ := hMH
    subst hMH
    have hmz : ∃ y, mx = some y ∧ a.eval y = .int k (H : Nat) := by
      cases mx with
      | none => simp [compO] at hmx; subst hmx; simp at hmm
      | some y =>
        simp only [compO, Option.map_eq_some_iff] at hmx
        obtain ⟨e', he, rfl⟩ := hmx
        have hr := compE_ok hf he
        simp only [Option.map_some, Option.some.injEq] at hmm
        rw [hmm] at hr; simp only [Rep] at hr
        exact ⟨y, rfl, hr⟩
    obtain ⟨y, rfl, hy⟩ := hmz
    obtain ⟨y2, k2, rfl, _, hy2⟩ : ∃ y' k', hi' = some y' ∧ eh.isSome = true ∧ a.eval y' = .int k' (H : Nat) := by
      rcases hh with ⟨rfl, rfl, _⟩ | h'
      · simp at hsome
      · exact h'
    have hb : (Instr.sliceBounds true xs.length c (lo.map a.eval) (Option.map a.eval (some y2)) (Option.map a.eval (some y))).run P W = .ok (L, H, H) W := by
      unfold Instr.sliceBounds
      rcases hl with ⟨rfl, rfl, e0⟩ | ⟨y', k, rfl, _, e0⟩
      · have h1 : L = 0 := by omega
        subst h1
        simp [Sem.run_bind, sliceBound_ok hy c .slice3Acap (by omega), sliceBound_ok hy2 H .slice3B (Nat.le_refl _)]
      · simp [Sem.run_bind, sliceBound_ok hy c .slice3Acap (by omega), sliceBound_ok hy2 H .slice3B (Nat.le_refl _), sliceBound_ok e0 H .slice3C hLH]
    refine ⟨.slice (if H = L then ad else ad.map (·.add (L * i.size))) (H - L) (H - L), ?_, ?_⟩
    · simp only [Instr.sliceAt, Instr.slice, Sem.run_bind, run_underlying ht, Result.andThen_ok, hav, hb, hsizeOf, Sem.run_pure]
    · have e1 : ((L : Nat) : Int).toNat = L := by simp
      have e2 : (((H : Nat) : Int) - (L : Nat)).toNat = H - L := by omega
      rw [e1, e2]
      refine hrepr _ _ _ (Nat.le_refl _) (fun e0 => ?_) trivial (fun hlt => ?_) rfl
      · split at e0
        · omega
        · cases ad with
          | none => have := h4 rfl; omega
          | some d => cases e0
      · rcases h3 with rfl | ⟨b', o', e1, hR⟩
        · simp at hHn; omega
        · exact ⟨b', o', e1, by rw [if_neg (by omega), e1, Option.map_some, addr_add]⟩
theorem slicex_ok {I : Im} {W : World} {n : Nat} {fr : Fr} {a : Act} (hf : FrRep I n fr a) {t e : TypeId} {i : TypeInfo} (ht : P.underlying t = some (.slice e)) (hi : P.info? e = some i) {x : Operand} {lo hi' mx : Option Operand} {ex : VE} {el eh em : Option VE}
    (hx : compE x = some ex) (hlo : compO lo = some el) (hhi : compO hi' = some eh) (hmx : compO mx = some em) {v : AV} (h : vslx i.size (ex.ev fr) (el.map (·.ev fr)) (eh.map (·.ev fr)) (em.map (·.ev fr)) = some v)
    (hsize : lo.isSome = true → ∀ xs tk, ex.ev fr = .sl xs tk → 0 < i.size ∧ ∀ x ∈ xs, x.cells.length = i.size) :
    ∃ z, (Instr.sliceAt t (a.eval x) (lo.map a.eval) (hi'.map a.eval) (mx.map a.eval)).run P W = .ok z W ∧ Rep I v z := by
  unfold vslx at h
  split at h
  case h_2 => exact slice_ok hf ht hi hx hlo hhi hmx h hsize
  rename_i b n' c hxe
  have hrx := compE_ok hf hx
  rw [hxe] at hrx
  simp only [Rep] at hrx
  obtain ⟨hav, hnc⟩ := hrx
  unfold oslc at h
  split at h
  case h_2 => cases h
  rename_i l hh m hl1 hh1 hm1
  obtain ⟨⟨a1, a2, a3, a4, a5, a6, a7⟩, rfl⟩ := ite_some h
  have hsizeOf : (sizeOf e).run P W = .ok i.size W := by simp [sizeOf, typeInfo, hi]
  have hl := bnd_ok hf hlo hl1
  have hh := bnd_ok hf hhi hh1
  have hm := bnd_ok hf hmx hm1
  obtain ⟨L, rfl⟩ := Int.eq_ofNat_of_zero_le a1
  obtain ⟨H, rfl⟩ := Int.eq_ofNat_of_zero_le (Int.le_trans a1 a2)
  obtain ⟨M, rfl⟩ := Int.eq_ofNat_of_zero_le (Int.le_trans (Int.le_trans a1 a2) a4)
  have hb : (Instr.sliceBounds true n' c (lo.map a.eval) (hi'.map a.eval) (mx.map a.eval)).run P W = .ok (L, H, M) W := by
    unfold Instr.sliceBounds
    rcases hm with ⟨rfl, rfl, e2⟩ | ⟨y3, k3, rfl, ems, e2⟩
    · have h3 : M = c := by omega
      subst h3
      rcases hl with ⟨rfl, rfl, e0⟩ | ⟨y', k, rfl, _, e0⟩ <;> rcases hh with ⟨rfl, rfl, e1⟩ | ⟨y2, k2, rfl, _, e1⟩
      · have h1 : L = 0 := by omega
        have h2 : H = n' := by omega
        subst h1 h2
        simp
      · have h1 : L = 0 := by omega
        subst h1
        simp [Sem.run_bind, sliceBound_ok e1 M .sliceAcap (by omega)]
      · have h2 : H = n' := by omega
        subst h2
        simp [Sem.run_bind, sliceBound_ok e0 H .sliceB (by omega)]
      · simp [Sem.run_bind, sliceBound_ok e0 H .sliceB (by omega), sliceBound_ok e1 M .sliceAcap (by omega)]
    · rcases hh with ⟨rfl, rfl, e1⟩ | ⟨y2, k2, rfl, _, e1⟩
      · have := a7 (by cases em <;> simp_all)
        simp at this
      · rcases hl with ⟨rfl, rfl, e0⟩ | ⟨y', k, rfl, _, e0⟩
        · have h1 : L = 0 := by omega
          subst h1
          simp [Sem.run_bind, sliceBound_ok e2 c .slice3Acap (by omega), sliceBound_ok e1 M .slice3B (by omega)]
        · simp [Sem.run_bind, sliceBound_ok e2 c .slice3Acap (by omega), sliceBound_ok e1 M .slice3B (by omega), sliceBound_ok e0 H .slice3C (by omega)]
  refine ⟨.slice (if M = L then some ⟨b, 0, none⟩ else (some (⟨b, 0, none⟩ : Addr)).map (·.add (L * i.size))) (H - L) (M - L), ?_, ?_⟩
  · simp only [Instr.sliceAt, Instr.slice, Sem.run_bind, run_underlying ht, Result.andThen_ok, hav, hb, hsizeOf, Sem.run_pure]
  · by_cases hL0 : L = 0
    · subst hL0
      simp only [Int.ofNat_zero, if_true, Int.toNat_natCast, Nat.sub_zero, Nat.zero_mul]
      simp only [Rep]
      refine ⟨?_, by omega⟩
      split <;> simp [Addr.add]
    · rw [if_neg (by omega)]
      have hLH : L < H := by omega
      rw [if_neg (by omega)]
      simp only [Rep]
      refine ⟨?_, by omega⟩
      rw [show (((L : Nat) : Int).toNat) = L by simp, show (((H : Nat) : Int) - (L : Nat)).toNat = H - L by omega, show (((M : Nat) : Int) - (L : Nat)).toNat = M - L by omega]
      simp [addr_add]
end Go.Proofs.YtglekfgoadehbaaDoor.V
end
section
set_option linter.unusedSimpArgs false
set_option linter.unusedVariables false
/- The operations' own steps. -/
namespace Go.Proofs.YtglekfgoadehbaaDoor.V
open Go Go.RowKit
variable {P : Program}
section
variable {B : Base} {I : Im} {st : St} {W : World} {fr : Fr} {a : Act} {n : Nat}
theorem vload_ok (h : Rel B I st W) {t : TypeId} {d : TypeDesc} {i : TypeInfo} (hu : P.underlying t = some d) (hi : P.info? t = some i) {x v : AV} {u : Value} (hx : Rep I x u) (hv : vload st x i.size d.isRow = some v) :
    ∃ z, (Instr.loadAt t u).run P W = .ok z W ∧ Rep I v z := by
  unfold vload at hv
  split at hv
  · rename_i b off
    simp only [Rep] at hx
    subst hx
    split at hv
    · rename_i cs hcs
      obtain ⟨vs, ty, hb, hr⟩ := h.cells b cs hcs
      obtain ⟨z, hz, hrz⟩ := load_of (W := W) hu hi (b := b) (o := 0) hr (fun j u hj => by rw [cell_of hb]; simpa using hj) hv
      rw [Nat.zero_add] at hz
      exact ⟨z, by simp only [Instr.loadAt, Instr.sureAddr, Sem.run_bind, Sem.run_pure, Result.andThen_ok]; exact hz, hrz⟩
    · cases hv
  · rename_i x off
    simp only [Rep] at hx
    obtain ⟨b, o, u, rfl, hxu, hrow⟩ := hx
    split at hv
    · cases hv
    · rename_i hund
      by_cases hne : x.cells = []
      · have hn : x = .no ∨ ∃ cs, x = .agg cs := by
          cases x <;> simp_all [AV.cells, AV.isUndef]
        rcases hn with rfl | ⟨cs, rfl⟩
        · unfold grab at hv
          split at hv
          · rename_i hle
            simp [AV.cells] at hle
            obtain ⟨rfl, h0⟩ := hle
            split at hv
            · rename_i hrow'
              obtain ⟨z, hz, hrz⟩ := load_of (W := W) hu hi (b := b) (o := o) (cs := []) (vs := []) (by simp [RepL]) (by simp) (off := 0) (v := v) (by unfold grab; simp [h0, hrow']; simpa [AV.cells, h0] using hv)
              exact ⟨z, by simp only [Instr.loadAt, Instr.sureAddr, Sem.run_bind, Sem.run_pure, Result.andThen_ok]; exact hz, hrz⟩
            · simp [AV.cells] at hv
          · cases hv
        · obtain ⟨z, hz, hrz⟩ := load_of (W := W) hu hi (b := b) (o := o) (hxu.cells (by simp) (by simp)) (fun j v hj => h.imm _ _ _ (hrow j v (by simpa using hj))) hv
          exact ⟨z, by simp only [Instr.loadAt, Instr.sureAddr, Sem.run_bind, Sem.run_pure, Result.andThen_ok]; exact hz, hrz⟩
      · obtain ⟨z, hz, hrz⟩ := load_of (W := W) hu hi (b := b) (o := o) (hxu.cells' (List.length_pos_iff.2 hne)) (fun j v hj => h.imm _ _ _ (hrow j v (by simpa using hj))) hv
        exact ⟨z, by simp only [Instr.loadAt, Instr.sureAddr, Sem.run_bind, Sem.run_pure, Result.andThen_ok]; exact hz, hrz⟩
  · cases hv
theorem bsl_ok (h : Rel B I st W) {t e : TypeId} {i : TypeInfo} (hu : P.underlying t = some (.slice e)) (hi : P.info? e = some i) (hz : i.zero.isSome = true) (hp : 0 < i.size) {len : Nat} (hsm : len * i.size ≤ 16777216)
    {xs : List AV} {us : List Value} (hr : RepL I xs us) (hl : us.length = len) {v : AV} (hv : vbsl i.size xs = some v) :
    ∃ u W' J, (Instr.buildSlice t len ((us.zipIdx 0).map fun x => (x.2, x.1)).toArray).run P W = .ok u W' ∧ I.le J ∧ Rel B J st W' ∧ Rep J v u := by
  unfold vbsl at hv
  obtain ⟨hc, rfl⟩ := ite_some hv
  simp only [Bool.and_eq_true, List.all_eq_true, beq_iff_eq] at hc
  have hus : ∀ u ∈ us, u.cells.size = i.size := by
    clear hv hl hsm
    induction xs generalizing us with
    | nil => cases us with
      | nil => simp
      | cons u us => exact hr.elim
    | cons x xs ih => cases us with
      | nil => exact hr.elim
      | cons u us =>
        intro w hw
        rcases List.mem_cons.1 hw with rfl | hw
        · have hx := hc.1 x (by simp)
          have := (hr.1.cells' (by omega)).length
          simp at this; omega
        · exact ih hr.2 ⟨fun x hx => hc.1 x (by simp [hx]), hc.2⟩ w hw
  obtain ⟨z, hz⟩ := Option.isSome_iff_exists.1 hz
  by_cases h0 : len = 0
  · have : us = [] := List.length_eq_zero_iff.1 (by omega)
    subst this
    have hxs : xs = [] := by cases xs with
      | nil => rfl
      | cons => exact hr.elim
    subst hxs h0
    refine ⟨.slice (some ⟨W.heap.size, 0, none⟩) 0 0, W.alloc (.cells #[] e), I, ?_, Im.le.refl _, h.alloc_any _, ?_⟩
    · simp [Instr.buildSlice, run_underlying hu, sizeOf, typeInfo, hi, newRow, Instr.fill]
      have e0 : ∀ (f : Nat → Value), Array.map f (Array.range 0) = #[] := fun f => Array.ext' (by simp)
      rw [e0]
    · unfold Rep
      exact ⟨_, 0, 1, rfl, Nat.le_refl _, by omega, .inl rfl, by simp, trivial, rfl⟩
  · have hpos : ¬ len * i.size = 0 := by
      have := Nat.mul_pos (Nat.pos_of_ne_zero h0) hp; omega
    have hfill := Great.fill_whole hp us (((Array.range (len * i.size)).map (z.cells[· % z.cells.size]!))) hus (by simp [hl])
    have hrun := run_buildSlice (P := P) W t e len ((us.zipIdx 0).map fun x => (x.2, x.1)).toArray _ i z hu hi hz (by omega) hpos (by simpa using hfill)
    obtain ⟨arr, harr⟩ : ∃ arr, arr = (us.flatMap fun v => v.cells.toList).toArray := ⟨_, rfl⟩
    rw [← harr] at hrun
    obtain ⟨hle, hrel⟩ := h.newRow arr e arr.size
    refine ⟨_, _, _, hrun, hle, hrel, ?_⟩
    have hxl : xs.length = len := by have := hr.length; omega
    unfold Rep
    refine ⟨some ⟨W.heap.size, 0, none⟩, len, i.size, by rw [hxl], by omega, hp, .inr ⟨W.heap.size, 0, rfl, ?_⟩, by simp, trivial, hxl.symm⟩
    refine RepR.of_cells (hr.mono hle) hus (fun j v hj => ?_)
    unfold Im.row
    have : arr[0 + j]? = some v := by rw [harr]; simpa [List.flatMap] using hj
    have hjs := (Array.getElem?_eq_some_iff.1 this).1
    rw [if_pos ⟨rfl, Nat.zero_le _, hjs⟩]
    exact this
end
end Go.Proofs.YtglekfgoadehbaaDoor.V
end
section
set_option linter.unusedSimpArgs false
set_option linter.unusedVariables false
/- One operation, walked. -/
namespace Go.Proofs.YtglekfgoadehbaaDoor.V
open Go Go.RowKit
variable {P : Program}
theorem run_clear_any (w : World) (t e ty : TypeId) (z : Value) (ht : P.underlying t = some (.slice e)) (hv : ∀ w, (zeroValue e).run P w = .ok z w) (h1 : ∀ v ∈ z.cells.toList, v.oneCell' = true) (b o n c : Nat) (hn : 0 < n)
    (hc : ∀ j, j < n * z.cells.size → (w.cell? ⟨b, o + j, none⟩).isSome = true) (hf : ∀ j, j < n * z.cells.size → w.frozen? ⟨b, o + j, none⟩ = false) :
    (Builtin.clear_ #[t] ty #[.slice (some ⟨b, o, none⟩) n c]).run P w = .ok (.tuple #[]) (w.setCells b o (Builtin.zeroCells z.cells n).toList) := by
  have hl : (Builtin.zeroCells z.cells n).toList.length = n * z.cells.size := by rw [Array.length_toList, size_zeroCells]
  have hst := run_storeCells_cells (P := P) b o (Builtin.zeroCells z.cells n).toList 0 w (by rw [hl]; simpa using hc) (by rw [hl]; simpa using hf) (by
    intro v hv'
    simp only [Builtin.zeroCells, Array.toList_map, List.mem_map, Array.toList_range, List.mem_range] at hv'
    obtain ⟨i, hi, rfl⟩ := hv'
    have hz0 : z.cells.size ≠ 0 := fun h => by rw [h] at hi; simp at hi
    have : i % z.cells.size < z.cells.size := Nat.mod_lt _ (by omega)
    rw [getElem!_pos z.cells _ this]
    exact h1 _ (by simp))
  simp only [Nat.add_zero] at hst
  obtain ⟨m, rfl⟩ : ∃ m, n = m + 1 := ⟨n - 1, by omega⟩
  simp [Builtin.clear_, run_underlying ht, hv, hst]
theorem clrAt_rep {I : Im} {a : AV} {v : Value} {b o n : Nat} (h : clrAt a = some (b, o, n)) (hr : Rep I a v) : ∃ c, v = .slice (some ⟨b, o, none⟩) n c := by
  unfold clrAt at h
  split at h
  · cases h; simp only [Rep] at hr; exact ⟨_, hr.1⟩
  · cases h; simp only [Rep] at hr; exact ⟨_, hr.1⟩
  · cases h
def FR (ro : Option Nat) : Fence := { Fence.wide with round := ro }
section
variable {B : Base} {I : Im} {st : St} {W : World} {fr : Fr} {a : Act} {n : Nat}
def After (B : Base) (I : Im) (a : Act) (dst : Option Tmp) (K : AV → St → Prop) (a' : Act) (W' : World) : Prop :=
  ∃ v st' u J, I.le J ∧ Rel B J st' W' ∧ Rep J v u ∧ a' = a.put dst u ∧ K v st'
theorem wpIn_value {ro : Option Nat} {o : Oper} (hd : ∀ c, o.op ≠ .defer c) {Q : Exit → Act → World → Prop} {K : AV → St → Prop} {u : Value} {W' : World} {J : Im} {v : AV} {st' : St} (hrun : (execOp a.eval o).run P W = .ok (.value u) W') (hle : I.le J) (hr : Rel B J st' W') (hv : Rep J v u)
    (hk : K v st') : o.wpIn (FR ro) 0 P a W (After B I a o.dst K) Q := by
  refine ⟨fun f _ => trivial, ?_⟩
  rw [Oper.semAt_eq _ _ _ hd, hrun]
  exact ⟨v, st', u, J, hle, hr, hv, rfl, hk⟩
theorem wpIn_none_ {ro : Option Nat} {o : Oper} (hd : ∀ c, o.op ≠ .defer c) {Q : Exit → Act → World → Prop} {K : AV → St → Prop} {W' : World} {st' : St} (hrun : (execOp a.eval o).run P W = .ok .skip W') (hr : Rel B I st' W')
    (hk : K .no st') : o.wpIn (FR ro) 0 P a W (After B I a o.dst K) Q := by
  refine ⟨fun f _ => trivial, ?_⟩
  rw [Oper.semAt_eq _ _ _ hd, hrun]
  exact ⟨.no, st', Go.undef, I, Im.le.refl _, hr, by simp only [Rep], rfl, hk⟩
theorem Rel.put_raw (h : Rel B I st W) {l : Nat} {o o' : Obj} (hl : st.objs l = some (.raw o)) : Rel B I (st.ins l (.raw o')) (W.putObj l o') := by
  have hlt := h.objs_lt hl
  have hsame : ∀ k, k ≠ l → (W.putObj l o').heap[k]? = W.heap[k]? := fun k hk => World.putObj_heap_other hk
  have hI := h.sep l _ hl
  have hne : ∀ k, st.live k = true → k.b ≠ l := fun k hk e => by obtain ⟨_, _, _, _, _, r3⟩ := h.tk k hk; rw [e, hl] at r3; cases r3
  exact {
    cells := fun b cs hb => by
      simp only [St.ins] at hb
      split at hb
      · cases hb
      · rename_i e; obtain ⟨vs, ty, e', r⟩ := h.cells b cs hb; exact ⟨vs, ty, (hsame b e).trans e', r⟩
    raw := fun b x hb => by
      simp only [St.ins] at hb
      split at hb
      · rename_i e; subst e; cases hb; exact World.putObj_heap_same hlt
      · rename_i e; exact (hsame b e).trans (h.raw b x hb)
    minv := fun b x hb => by
      simp only [St.ins] at hb
      split at hb
      · cases hb
      · rename_i e; obtain ⟨es, clk, e', hp⟩ := h.minv b x hb; exact ⟨es, clk, (hsame b e).trans e', hp⟩
    imm := fun b o v hv => by
      have h0 := h.imm b o v hv
      have hne : b ≠ l := fun e => by rw [e, hI] at hv; cases hv
      unfold World.cell? at h0 ⊢
      rw [hsame b hne]; exact h0
    sep := fun b x hb => by
      simp only [St.ins] at hb
      split at hb
      · rename_i e; subst e; exact hI
      · exact h.sep b x hb
    tk := fun k hk => by
      obtain ⟨arr, ty, e, r1, r2, r3⟩ := h.tk k hk
      exact ⟨arr, ty, (hsame _ (hne k hk)).trans e, r1, r2, by simp only [St.ins]; rw [if_neg (hne k hk)]; exact r3⟩
    tk1 := h.tk1
    upd := h.upd.trans ⟨rfl, rfl, rfl, by simp, fun k _ hk => hsame k (fun e => hk (by subst e; exact (h.own k (.inl ⟨_, hl⟩)).elim .inl .inr))⟩
    own := fun b hb => by
      rcases hb with ⟨x, hb⟩ | ⟨k, hk, e⟩
      · simp only [St.ins] at hb
        split at hb
        · rename_i e; subst e; exact h.own b (.inl ⟨_, hl⟩)
        · exact h.own b (.inl ⟨x, hb⟩)
      · exact h.own b (.inr ⟨k, hk, e⟩)
    le := h.le
    new := h.new }
theorem Rel.put_minv (h : Rel B I st W) {l : Nat} {p : Array MapEntry → Nat → Prop} (hl : st.objs l = some (.minv p)) {es : Array MapEntry} {clk : Nat} (hp : p es clk) : Rel B I st (W.putObj l (.map es clk)) := by
  have hlt := h.objs_lt hl
  have hsame : ∀ k, k ≠ l → (W.putObj l (.map es clk)).heap[k]? = W.heap[k]? := fun k hk => World.putObj_heap_other hk
  have hI := h.sep l _ hl
  have hne : ∀ k, st.live k = true → k.b ≠ l := fun k hk e => by obtain ⟨_, _, _, _, _, r3⟩ := h.tk k hk; rw [e, hl] at r3; cases r3
  exact {
    cells := fun b cs hb => by
      have e : b ≠ l := fun e => by rw [e, hl] at hb; cases hb
      obtain ⟨vs, ty, e', r⟩ := h.cells b cs hb; exact ⟨vs, ty, (hsame b e).trans e', r⟩
    raw := fun b x hb => by
      have e : b ≠ l := fun e => by rw [e, hl] at hb; cases hb
      exact (hsame b e).trans (h.raw b x hb)
    minv := fun b x hb => by
      by_cases e : b = l
      · subst e; rw [hl] at hb; cases hb; exact ⟨es, clk, World.putObj_heap_same hlt, hp⟩
      · obtain ⟨es', clk', e', hp'⟩ := h.minv b x hb; exact ⟨es', clk', (hsame b e).trans e', hp'⟩
    imm := fun b o v hv => by
      have h0 := h.imm b o v hv
      have hne : b ≠ l := fun e => by rw [e, hI] at hv; cases hv
      unfold World.cell? at h0 ⊢
      rw [hsame b hne]; exact h0
    sep := h.sep
    tk := fun k hk => by
      obtain ⟨arr, ty, e, r1, r2, r3⟩ := h.tk k hk
      exact ⟨arr, ty, (hsame _ (hne k hk)).trans e, r1, r2, r3⟩
    tk1 := h.tk1
    upd := h.upd.trans ⟨rfl, rfl, rfl, by simp, fun k _ hk => hsame k (fun e => hk (by subst e; exact (h.own k (.inl ⟨_, hl⟩)).elim .inl .inr))⟩
    own := h.own
    le := h.le
    new := h.new }
theorem wpIn_calls {Z : Im} {ro : Option Nat} {o : Oper} (hd : ∀ c, o.op ≠ .defer c) {Q : Exit → Act → World → Prop} {K : AV → St → Prop} {f : Nat} {args : List AV} {vs : Array Value} (hrun : (execOp a.eval o).run P W = .ok (.enter f vs) W)
    (h : Rel B I st W) (ha : RepL I args vs.toList) (hz : Z.le I) (hk : VCalls P Z f args st K) : o.wpIn (FR ro) 0 P a W (After B I a o.dst K) Q := by
  refine ⟨fun f _ => trivial, ?_⟩
  rw [Oper.semAt_eq _ _ _ hd, hrun]
  refine ⟨fun e => by simp [FR, Fence.wide] at e, ?_⟩
  have c0 : CallsIn (FR ro) (0 - 1) P f vs W _ := callsIn_wide (n := 0) |>.2 (hk.2 B I W vs hz h ha)
  exact CallsIn.mono c0 (fun e w' => by rintro ⟨u, J, st', v, rfl, hle, hr, hv, hk⟩; exact ⟨v, st', u, J, hle, hr, hv, rfl, hk⟩)
theorem wpIn_yield {Z : Im} {ro : Option Nat} {o : Oper} (hd : ∀ c, o.op ≠ .defer c) {Q : Exit → Act → World → Prop} {K : AV → St → Prop} {l : Nat} {args : List AV} {vs : Array Value} (hrun : (execOp a.eval o).run P W = (Instr.yield l vs).run P W)
    (h : Rel B I st W) (ha : RepL I args vs.toList) (hz : Z.le I) (hk : VYield P Z l args st K) : o.wpIn (FR ro) 0 P a W (After B I a o.dst K) Q := by
  obtain ⟨fn, tmps, assign, body, h1, h2⟩ := hk B I W vs hz h ha
  refine ⟨fun f _ => trivial, ?_⟩
  rw [Oper.semAt_eq _ _ _ hd, hrun, h1]
  refine ⟨fun e => by simp [FR, Fence.wide] at e, ?_⟩
  have c0 : RoundIn (FR ro) (0 - 1) P l fn tmps assign body W _ := h2
  exact RoundIn.mono c0 (fun e w' => by rintro ⟨u, J, st', v, rfl, hle, hr, hv, hk⟩; exact ⟨v, st', u, J, hle, hr, hv, rfl, hk⟩)
def VO.isPure : VO → Bool
  | .slc .. | .box _ | .alloc _ | .store .. | .app .. | .call .. | .callv .. | .isnil .. | .mkm | .mlk .. | .mup .. | .ment .. | .mst .. | .clr .. | .bad => false
  | _ => true
theorem vstep_val {Z : Im} {o : VO} {K : AV → St → Prop} (hp : o.isPure = true) (h : vstep P Z o fr st K) : ∃ v, vval o fr st = some v ∧ K v st := by
  cases o <;> first
    | (simp [VO.isPure] at hp; done)
    | exact optK_out h
theorem zip_range (us : List Value) (idx : List Nat) (h : idx = List.range us.length) : idx.zip us = (us.zipIdx 0).map fun x => (x.2, x.1) := by
  subst h
  rw [List.zipIdx_eq_zip_range']
  rw [List.range_eq_range']
  generalize 0 = k
  induction us generalizing k with
  | nil => rfl
  | cons u us ih => simp [List.range'_succ, ih (k + 1)]
theorem vstep_ok {Z : Im} {ro : Option Nat} {o : Oper} {vo : VO} {Q : Exit → Act → World → Prop} {K : AV → St → Prop} (hc : compOp P o = some vo) (h : Rel B I st W) (hf : FrRep I n fr a) (hz : Z.le I) (hk : vstep P Z vo fr st K) :
    o.wpIn (FR ro) 0 P a W (After B I a o.dst K) Q := by
  unfold compOp at hc
  split at hc
  case _ x ho => cases hc; exact hk.elim
  case _ t x ho => cases hc; exact hk.elim
  case _ x ho => -- move
    obtain ⟨e, he, rfl⟩ := Option.map_eq_some_iff.1 hc
    obtain ⟨v, hv, hk⟩ := vstep_val rfl hk
    cases hv
    exact wpIn_value (fun c e => by rw [ho] at e; cases e) (by simp [execOp, ho]) (Im.le.refl _) h (compE_ok hf he) hk
  case _ x ho => -- assign
    obtain ⟨e, he, rfl⟩ := Option.map_eq_some_iff.1 hc
    obtain ⟨v, hv, hk⟩ := vstep_val rfl hk
    cases hv
    exact wpIn_value (fun c e => by rw [ho] at e; cases e) (by simp [execOp, ho]) (Im.le.refl _) h (compE_ok hf he) hk
  case _ c x y ho => -- pick
    split at hc
    · rename_i ec ex ey h1 h2 h3
      cases hc
      obtain ⟨v, hv, hk⟩ := vstep_val rfl hk
      have r1 := compE_ok hf h1
      have r2 := compE_ok hf h2
      have r3 := compE_ok hf h3
      simp only [vval, vpick] at hv
      split at hv
      · rename_i t ht
        rw [ht] at r1; simp only [Rep] at r1
        cases hv
        refine wpIn_value (fun c e => by rw [ho] at e; cases e) (u := if t then a.eval x else a.eval y) (by simp [execOp, ho, r1, asBool]) (Im.le.refl _) h ?_ hk
        cases t
        · exact r3
        · exact r2
      · cases hv
    · cases hc
  case _ e ho => -- alloc
    split at hc
    · rename_i i hi
      split at hc
      · rename_i z hz
        obtain ⟨cs, hcs, rfl⟩ := Option.map_eq_some_iff.1 hc
        simp only [vstep] at hk
        obtain ⟨hno, hr⟩ := h.alloc e (toCells_ok (I := I) hcs)
        exact wpIn_value (fun c e => by rw [ho] at e; cases e) (u := .pointer (some ⟨W.heap.size, 0, none⟩)) (by simp [execOp, ho, Instr.alloc, zeroValue, typeInfo, hi, hz, newVar, newRow]) (Im.le.refl _) hr (by simp only [Rep]) (hk _ hno)
      · cases hc
    · cases hc
  case _ e x ho => -- box
    obtain ⟨ex, he, rfl⟩ := Option.map_eq_some_iff.1 hc
    simp only [vstep] at hk
    have r1 := (compE_ok hf he).cells' hk.1
    obtain ⟨hno, hr⟩ := h.alloc e r1
    exact wpIn_value (fun c e => by rw [ho] at e; cases e) (u := .pointer (some ⟨W.heap.size, 0, none⟩)) (by simp [execOp, ho, Instr.box, newVar, newRow]) (Im.le.refl _) hr (by simp only [Rep]) (hk.2 _ hno)
  case _ t parts ho => -- build
    split at hc
    · rename_i i hi
      split at hc
      · rename_i z place hz hpl
        split at hc
        · rename_i zc ps h1 h2
          cases hc
          obtain ⟨v, hv, hk⟩ := vstep_val rfl hk
          obtain ⟨cs', hfl, rfl⟩ := Option.map_eq_some_iff.1 hv
          obtain ⟨hl, hp⟩ := compParts_ok hf h2
          obtain ⟨vs', hvs, hr⟩ := fill_ok (I := I) place (parts.toList.map fun (i, x) => (i, a.eval x)) (ps.map fun (o, n, x) => (o, n, x.ev fr)) zc cs' z.cells (toCells_ok h1) (by simpa using hl) hp hfl
          have hb : P.built t (parts.map fun (i, x) => (i, a.eval x)).toList = some vs' := by
            rw [built_of hi hz hpl]; simpa using hvs
          refine wpIn_value (fun c e => by rw [ho] at e; cases e) (u := .agg vs') ?_ (Im.le.refl _) h (by simp only [Rep]; exact ⟨vs', rfl, hr⟩) hk
          simp only [execOp, ho, Sem.run_bind, run_build W t _ _ hb, Result.andThen_ok, Sem.run_pure]
        · cases hc
      · cases hc
    · cases hc
  case _ t len parts ho => -- buildSlice
    split at hc
    · rename_i e hu
      split at hc
      · rename_i i hi
        split at hc
        · rename_i hcond
          obtain ⟨es, hes, rfl⟩ := Option.map_eq_some_iff.1 hc
          obtain ⟨v, hv, hk⟩ := vstep_val rfl hk
          obtain ⟨hz, hp, hsm, hidx⟩ := hcond
          have hr := compEs_ok hf hes
          have hlen : parts.toList.length = len := by
            have := congrArg List.length hidx; simpa using this
          obtain ⟨u, W', J, h1, h2, h3, h4⟩ := bsl_ok h hu hi hz hp hsm hr (by simp only [List.length_map]; exact hlen) hv
          have hparts : parts.map (fun (i, x) => (i, a.eval x)) = ((((parts.toList.map (·.2)).map a.eval).zipIdx 0).map fun x => (x.2, x.1)).toArray := by
            apply Array.ext'
            rw [← zip_range _ (parts.toList.map (·.1)) (by rw [hidx]; simp [hlen])]
            rw [List.map_map, List.zip_map']
            simp
          refine wpIn_value (fun c e => by rw [ho] at e; cases e) (u := u) ?_ h2 h3 h4 hk
          have : (execOp a.eval o).run P W = ((Instr.buildSlice t len (parts.map fun (i, x) => (i, a.eval x))).run P W).andThen fun v w => .ok (.value v) w := by
            simp [execOp, ho]
          rw [this, hparts, h1]; rfl
        · cases hc
      · cases hc
    · cases hc
  case _ t x ho => -- load
    split at hc
    · rename_i d i e hu hi he
      cases hc
      obtain ⟨v, hv, hk⟩ := vstep_val rfl hk
      obtain ⟨z, hz, hrz⟩ := vload_ok h hu hi (compE_ok hf he) hv
      exact wpIn_value (fun c e => by rw [ho] at e; cases e) (by simp only [execOp, ho, Sem.run_bind, hz, Result.andThen_ok, Sem.run_pure]) (Im.le.refl _) h hrz hk
    · cases hc
  case _ t x y ho => -- store
    split at hc
    · rename_i i e f hi he hf'
      cases hc
      simp only [vstep] at hk
      split at hk
      · rename_i b off hx
        split at hk
        · rename_i cs hcs
          obtain ⟨h1, h2, h3, h4, hk⟩ := hk
          have r1 := compE_ok hf he
          rw [hx] at r1; simp only [Rep] at r1
          have r2 := (compE_ok hf hf').cells' (by omega)
          have hul : (a.eval y).cells.size = i.size := by have := r2.length; simp at this; omega
          obtain ⟨vs, ty, hb, hr⟩ := h.cells b cs hcs
          have hst := h.store hcs r2 (by rw [h1]; exact h3)
          rw [h1] at hst
          have hthere : W.there b off (a.eval y).cells.size := fun j hj => by
            have hvl : vs.size = cs.length := by have := hr.length; simpa using this
            exact ⟨by rw [cell_of hb]; have : off + j < vs.size := by omega
                      simp [this], by simp [World.frozen?, hb]⟩
          have hone := all_one r2 h4
          have hrun : (Instr.storeAt t (a.eval x) (a.eval y)).run P W = .ok () (W.setCells b off (a.eval y).cells.toList) := by
            have hs := run_storeCells_cells (P := P) b off (a.eval y).cells.toList 0 W (fun j hj => by simpa using (hthere j (by simpa using hj)).1) (fun j hj => by simpa using (hthere j (by simpa using hj)).2) hone
            simp only [Nat.add_zero] at hs
            simp only [Instr.storeAt, r1, Instr.sureAddr, Sem.run_bind, Sem.run_pure, Result.andThen_ok, storeVar, sizeOf, typeInfo, run_program, hi, hul]
            simpa using hs
          refine ⟨fun f _ => trivial, ?_⟩
          rw [Oper.semAt_eq _ _ _ (fun c e => by rw [ho] at e; cases e)]
          have : (execOp a.eval o).run P W = .ok .skip (W.setCells b off (a.eval y).cells.toList) := by
            simp only [execOp, ho, Sem.run_bind, hrun, Result.andThen_ok, Sem.run_pure]
          rw [this]
          exact ⟨.no, _, Go.undef, I, Im.le.refl _, hst, by simp only [Rep], rfl, hk⟩
        · exact hk.elim
      · exact hk.elim
    · cases hc
  case _ x ho => -- nilCheck
    obtain ⟨e, he, rfl⟩ := Option.map_eq_some_iff.1 hc
    obtain ⟨v, hv, hk⟩ := vstep_val rfl hk
    obtain ⟨rfl, hrun⟩ := vnchk_ok (P := P) (W := W) (compE_ok hf he) hv
    exact wpIn_value (fun c e => by rw [ho] at e; cases e) (hrun a.eval o x ho rfl) (Im.le.refl _) h (compE_ok hf he) hk
  case _ op t x y yt ho => -- binOp
    have hd : ∀ c, o.op ≠ .defer c := fun c e => by rw [ho] at e; cases e
    split at hc
    · rename_i e f he hf'
      have r1 := compE_ok hf he
      have r2 := compE_ok hf hf'
      have plain : ∀ {v : AV}, vbin op (e.ev fr) (f.ev fr) = some v → K v st → o.wpIn (FR ro) 0 P a W (After B I a o.dst K) Q := fun {v} hv hk => by
        obtain ⟨z, hz, hrz⟩ := vbin_ok (W := W) (P := P) (t := t) (x := x) (y := y) r1 r2 hv
        exact wpIn_value hd (by simp only [execOp, ho]; rw [Sem.run_bind, hz]; rfl) (Im.le.refl _) h hrz hk
      split at hc
      · rename_i fs hu
        split at hc
        · rename_i hg
          have main : ∀ (neg : Bool) (ks : List Nat), eqShape P 8 t = some ks → (op = .eql ∧ neg = false ∨ op = .neq ∧ neg = true) → vstep P Z (.eqs neg ks e f) fr st K → o.wpIn (FR ro) 0 P a W (After B I a o.dst K) Q := fun neg ks hks hop hk => by
            obtain ⟨v, hv, hk⟩ := vstep_val rfl hk
            simp only [vval, veqs] at hv
            split at hv
            · rename_i cs ds hx hy
              split at hv
              · rename_i r hr
                cases hv
                rw [hx] at r1; rw [hy] at r2
                simp only [Rep] at r1 r2
                obtain ⟨vs, hvs, hrv⟩ := r1
                obtain ⟨us, hus, hru⟩ := r2
                obtain ⟨_, heq⟩ := equalIn_ok (I := I) (W := W) 8 9992 t ks hks _ hu
                have hrun := heq cs ds vs.toList us.toList hrv hru r hr
                simp only [TypeDesc.isRow, mkVal, if_true, Array.toArray_toList] at hrun
                refine wpIn_value hd (u := .bool (if neg then !r else r)) ?_ (Im.le.refl _) h (by simp only [Rep]) hk
                simp only [execOp, ho, hvs, hus]
                have hguard := run_eqGuard_agg (P := P) W op t x y vs us hg
                rcases hop with ⟨rfl, rfl⟩ | ⟨rfl, rfl⟩
                · rw [Sem.run_bind, Sem.run_bind, hguard]
                  simp only [Result.andThen_ok]
                  rw [run_eql_struct, hrun]; rfl
                · rw [Sem.run_bind, Sem.run_bind, hguard]
                  simp only [Result.andThen_ok]
                  rw [run_neq_struct, hrun]; rfl
              · cases hv
            · cases hv
          split at hc
          · rename_i ks hks; cases hc; exact main false ks hks (.inl ⟨rfl, rfl⟩) hk
          · rename_i ks hks; cases hc; exact main true ks hks (.inr ⟨rfl, rfl⟩) hk
          · cases hc
        · cases hc
      · cases hc; obtain ⟨v, hv, hk⟩ := vstep_val rfl hk; exact plain hv hk
      · cases hc; obtain ⟨v, hv, hk⟩ := vstep_val rfl hk; exact plain hv hk
      · rename_i hu
        have main : ∀ (neg : Bool), (op = .eql ∧ neg = false ∨ op = .neq ∧ neg = true) → vstep P Z (.eqs1 neg e f) fr st K → o.wpIn (FR ro) 0 P a W (After B I a o.dst K) Q := fun neg hop hk => by
          obtain ⟨v, hv, hk⟩ := vstep_val rfl hk
          simp only [vval, veqs1] at hv
          split at hv
          · rename_i p q hx hy
            cases hv
            rw [hx] at r1; rw [hy] at r2
            simp only [Rep] at r1 r2
            refine wpIn_value hd (u := .bool (if neg then !(p == q) else p == q)) ?_ (Im.le.refl _) h (by simp only [Rep]) hk
            have heq : (Op.equal t (.bool p) (.bool q)).run P W = .ok (p == q) W := run_equalIn_bool' W 9999 t p q hu
            rcases hop with ⟨rfl, rfl⟩ | ⟨rfl, rfl⟩
            · simp [execOp, ho, r1, r2, eqGuard, binOp, heq]
            · simp [execOp, ho, r1, r2, eqGuard, binOp, heq]
          · cases hv
        split at hc
        · cases hc; exact main false (.inl ⟨rfl, rfl⟩) hk
        · cases hc; exact main true (.inr ⟨rfl, rfl⟩) hk
        · cases hc
      · rename_i el hu
        have main : ∀ (neg : Bool), (op = .eql ∧ neg = false ∨ op = .neq ∧ neg = true) → y = .const (.slice none 0 0) → vstep P Z (.isnil neg e) fr st K → o.wpIn (FR ro) 0 P a W (After B I a o.dst K) Q := fun neg hop hy hk => by
          simp only [vstep] at hk
          split at hk
          · rename_i xs tk hx
            rw [hx] at r1; unfold Rep at r1
            obtain ⟨ad, c, sz, e1, q1, q2, q3, q4, q5⟩ := r1
            have hb : xs ≠ [] → ad.isNone = false := fun hne => by
              rcases q3 with h3 | ⟨b, o', e2, _⟩
              · exact absurd h3 hne
              · rw [e2]; rfl
            refine wpIn_value hd (u := .bool (if neg then !ad.isNone else ad.isNone)) ?_ (Im.le.refl _) h (by simp only [Rep]) (hk ad.isNone hb)
            have ey : a.eval y = .slice none 0 0 := by rw [hy]; rfl
            have heq := run_equal_slice_nil (P := P) W t el ad xs.length c hu
            rcases hop with ⟨rfl, rfl⟩ | ⟨rfl, rfl⟩
            · simp [execOp, ho, e1, ey, eqGuard, binOp, heq]
            · simp [execOp, ho, e1, ey, eqGuard, binOp, heq]
          · exact hk.elim
        split at hc
        · cases hc; exact main false (.inl ⟨rfl, rfl⟩) rfl hk
        · cases hc; exact main true (.inr ⟨rfl, rfl⟩) rfl hk
        · cases hc
      · cases hc
    · cases hc
  case _ op t x ho => -- unOp
    obtain ⟨e, he, rfl⟩ := Option.map_eq_some_iff.1 hc
    obtain ⟨v, hv, hk⟩ := vstep_val rfl hk
    obtain ⟨z, hz, hrz⟩ := vun_ok (P := P) (W := W) (compE_ok hf he) hv
    exact wpIn_value (fun c e => by rw [ho] at e; cases e) (by simp only [execOp, ho, Sem.run_bind, hz, Result.andThen_ok, Sem.run_pure]) (Im.le.refl _) h hrz hk
  case _ s d x ho => -- convert
    split at hc
    · rename_i ks k e hs hd he
      cases hc
      obtain ⟨v, hv, hk⟩ := vstep_val rfl hk
      obtain ⟨z, hz, hrz⟩ := vconv_ok (W := W) hs hd (compE_ok hf he) hv
      exact wpIn_value (fun c e => by rw [ho] at e; cases e) (by simp only [execOp, ho, Sem.run_bind, hz, Result.andThen_ok, Sem.run_pure]) (Im.le.refl _) h hrz hk
    · cases hc
  case _ f fs cs ho => -- makeFunc
    split at hc
    · rename_i es ds h1 h2
      cases hc
      obtain ⟨v, hv, hk⟩ := vstep_val rfl hk
      cases hv
      refine wpIn_value (fun c e => by rw [ho] at e; cases e) (u := .func (.func f) (fs.map a.eval) (cs.map a.eval)) (by simp [execOp, ho, Instr.makeFunc]) (Im.le.refl _) h ?_ hk
      simp only [Rep]
      exact ⟨_, _, rfl, by simpa using compEs_ok hf h1, by simpa using compEs_ok hf h2⟩
    · cases hc
  case _ t x lo hi mx ho => -- slice
    split at hc
    · rename_i el hu
      split at hc
      · rename_i i hi'
        split at hc
        · rename_i e l hh m h1 h2 h3 h4
          cases hc
          simp only [vstep] at hk
          obtain ⟨hsz, hk⟩ := hk
          obtain ⟨v, hv, hk⟩ := optK_out hk
          obtain ⟨z, hz, hrz⟩ := slicex_ok (W := W) hf hu hi' h1 h2 h3 h4 hv (fun hs xs tk hx => by
            have hl : l.isSome = true := by
              cases lo with
              | none => cases hs
              | some y => simp only [compO, Option.map_eq_some_iff] at h2; obtain ⟨e', _, rfl⟩ := h2; rfl
            have := hsz hl
            rw [hx] at this
            exact this)
          exact wpIn_value (fun c e => by rw [ho] at e; cases e) (by simp only [execOp, ho, Sem.run_bind, hz, Result.andThen_ok, Sem.run_pure]) (Im.le.refl _) h hrz hk
        · cases hc
      · cases hc
    · cases hc
  case _ t x f ho => -- fieldAddr
    split at hc
    · rename_i fs e hu he
      split at hc
      · rename_i fd hfd
        split at hc
        · rename_i i hi
          split at hc
          · rename_i h0
            cases hc
            obtain ⟨v, hv, hk⟩ := vstep_val rfl hk
            obtain ⟨z, hz, hrz⟩ := vfad_ok (W := W) hu hfd hi h0 (compE_ok hf he) hv
            exact wpIn_value (fun c e => by rw [ho] at e; cases e) (by simp only [execOp, ho, Sem.run_bind, hz, Result.andThen_ok, Sem.run_pure]) (Im.le.refl _) h hrz hk
          · cases hc
        · cases hc
      · cases hc
    · cases hc
  case _ t x f ho => -- field
    split at hc
    · rename_i fs e hu he
      split at hc
      · rename_i fd hfd
        split at hc
        · rename_i d i hd hi
          cases hc
          obtain ⟨v, hv, hk⟩ := vstep_val rfl hk
          obtain ⟨z, hz, hrz⟩ := vfld_ok (W := W) hu hfd hd hi (compE_ok hf he) hv
          exact wpIn_value (fun c e => by rw [ho] at e; cases e) (by simp only [execOp, ho, Sem.run_bind, hz, Result.andThen_ok, Sem.run_pure]) (Im.le.refl _) h hrz hk
        · cases hc
      · cases hc
    · cases hc
  case _ t x y ho => -- indexAddr
    split at hc
    · rename_i e ex ey hu h1 h2
      split at hc
      · rename_i i hi
        cases hc
        obtain ⟨v, hv, hk⟩ := vstep_val rfl hk
        obtain ⟨z, hz, hrz⟩ := viad_ok (W := W) hu hi (compE_ok hf h1) (compE_ok hf h2) hv
        exact wpIn_value (fun c e => by rw [ho] at e; cases e) (by simp only [execOp, ho, Sem.run_bind, hz, Result.andThen_ok, Sem.run_pure]) (Im.le.refl _) h hrz hk
      · cases hc
    · rename_i len e ex ey hu h1 h2
      split at hc
      · rename_i i hi
        cases hc
        obtain ⟨v, hv, hk⟩ := vstep_val rfl hk
        obtain ⟨z, hz, hrz⟩ := viaa_ok (W := W) hu hi (compE_ok hf h1) (compE_ok hf h2) hv
        exact wpIn_value (fun c e => by rw [ho] at e; cases e) (by simp only [execOp, ho, Sem.run_bind, hz, Result.andThen_ok, Sem.run_pure]) (Im.le.refl _) h hrz hk
      · cases hc
    · cases hc
  case _ t x y ho => -- index
    split at hc
    · rename_i len e ex ey hu h1 h2
      split at hc
      · rename_i d i hd hi
        cases hc
        obtain ⟨v, hv, hk⟩ := vstep_val rfl hk
        obtain ⟨z, hz, hrz⟩ := vixa_ok (W := W) hu hd hi (compE_ok hf h1) (compE_ok hf h2) hv
        exact wpIn_value (fun c e => by rw [ho] at e; cases e) (by simp only [execOp, ho, Sem.run_bind, hz, Result.andThen_ok, Sem.run_pure]) (Im.le.refl _) h hrz hk
      · cases hc
    · rename_i ex ey hu h1 h2
      cases hc
      obtain ⟨v, hv, hk⟩ := vstep_val rfl hk
      obtain ⟨z, hz, hrz⟩ := vixs_ok (W := W) hu (compE_ok hf h1) (compE_ok hf h2) hv
      exact wpIn_value (fun c e => by rw [ho] at e; cases e) (by simp only [execOp, ho, Sem.run_bind, hz, Result.andThen_ok, Sem.run_pure]) (Im.le.refl _) h hrz hk
    · cases hc
  case _ x i ho => -- extract
    obtain ⟨e, he, rfl⟩ := Option.map_eq_some_iff.1 hc
    obtain ⟨v, hv, hk⟩ := vstep_val rfl hk
    obtain ⟨z, hz, hrz⟩ := vext_ok (P := P) (W := W) (compE_ok hf he) hv
    exact wpIn_value (fun c e => by rw [ho] at e; cases e) (by simp only [execOp, ho, Sem.run_bind, hz, Result.andThen_ok, Sem.run_pure]) (Im.le.refl _) h hrz hk
  case _ t ho => -- makeMap
    cases hc
    simp only [vstep] at hk
    exact wpIn_value (fun c e => by rw [ho] at e; cases e) (u := .map (some W.heap.size)) (by simp only [execOp, ho, Option.map_none, Sem.run_bind, run_makeMap_m, Result.andThen_ok, Sem.run_pure]) (Im.le.refl _)
      ((h.alloc_any _).ins_raw (heap_new W (.map #[] 0)) (h.immNone (Nat.le_refl _)) (fun k hk e => by have := h.live_lt hk; omega) (.inr h.upd.size)) (by simp only [Rep]) (hk _ (h.fresh (Nat.le_refl _)))
  case _ t x y ok ho => -- lookup
    have hdf : ∀ c, o.op ≠ .defer c := fun c e => by rw [ho] at e; cases e
    split at hc
    · rename_i kt et a' b' hu ha hb
      split at hc
      · rename_i kd i hkd hi
        split at hc
        · rename_i z hz
          split at hc
          · rename_i zc hzc
            have main : ∀ str, keyD str kd = true → vstep P Z (.mlk str zc ok a' b') fr st K → o.wpIn (FR ro) 0 P a W (After B I a o.dst K) Q := fun str hd hk => by
              simp only [vstep] at hk
              split at hk
              · rename_i b hx
                have look : ∀ (es : Array MapEntry) (clk : Nat) (k : Value), W.heap[b]? = some (.map es clk) → kvalK str (b'.ev fr) = some k → optK (mget zc ok (mfind k es.toList 0)) (K · st) → o.wpIn (FR ro) 0 P a W (After B I a o.dst K) Q := fun es clk k hh hkv hk => by
                  obtain ⟨v, hv, hk⟩ := optK_out hk
                  have r1 := compE_ok hf ha
                  rw [hx] at r1; simp only [Rep] at r1
                  have r2 := kvalK_ok hkv (compE_ok hf hb)
                  have hz' : (zeroValue et).run P W = .ok z W := by simp [zeroValue, typeInfo, hi, hz]
                  cases hm : mfind k es.toList 0 with
                  | none => rw [hm] at hv; cases hv
                  | some r =>
                    rw [hm] at hv
                    have hrun := run_lookup_m (ok := ok) hu hkd hd hkv hz' hh hm
                    refine wpIn_value hdf (u := lookV ok z r) (by simp only [execOp, ho, Sem.run_bind, r1, r2, hrun, Result.andThen_ok, Sem.run_pure]) (Im.le.refl _) h ?_ hk
                    cases r with
                    | none =>
                      simp only [mget, Option.some.injEq] at hv
                      subst hv
                      cases ok
                      · exact toCell_ok hzc
                      · simp only [if_true, Rep, lookV]; exact ⟨_, rfl, toCell_ok hzc, by simp only [Rep], trivial⟩
                    | some q =>
                      obtain ⟨j, w⟩ := q
                      simp only [mget, Option.map_eq_some_iff] at hv
                      obtain ⟨c, hc1, rfl⟩ := hv
                      cases ok
                      · exact toCell_ok hc1
                      · simp only [if_true, Rep, lookV]; exact ⟨_, rfl, toCell_ok hc1, by simp only [Rep], trivial⟩
                split at hk
                · rename_i es clk k hob hkv
                  exact look es clk k (h.raw _ _ hob) hkv hk
                · rename_i p k hob hkv
                  obtain ⟨es, clk, hh, hp⟩ := h.minv _ _ hob
                  exact look es clk k hh hkv (hk es clk hp)
                · exact hk.elim
              · exact hk.elim
            split at hc
            · rename_i hd; cases hc; exact main true hd hk
            · split at hc
              · rename_i hd; cases hc; exact main false hd hk
              · cases hc
          · cases hc
        · cases hc
      · cases hc
    · cases hc
  case _ t x y v ho => -- mapUpdate
    have hdf : ∀ c, o.op ≠ .defer c := fun c e => by rw [ho] at e; cases e
    split at hc
    · rename_i kt et a' b' c' hu ha hb hv'
      split at hc
      · rename_i kd hkd
        have main : ∀ str, keyD str kd = true → vstep P Z (.mup str a' b' c') fr st K → o.wpIn (FR ro) 0 P a W (After B I a o.dst K) Q := fun str hd hk => by
          simp only [vstep] at hk
          split at hk
          · rename_i b hx
            split at hk
            · rename_i es clk k u hob hkv hcv
              split at hk
              · rename_i es' clk' hput
                have r1 := compE_ok hf ha
                rw [hx] at r1; simp only [Rep] at r1
                have r2 := kvalK_ok hkv (compE_ok hf hb)
                have r3 := cval_ok hcv (compE_ok hf hv')
                have hrun := run_mapUpdate_m hu hkd hd hkv (h.raw _ _ hob) hput
                exact wpIn_none_ hdf (by simp only [execOp, ho, Sem.run_bind, r1, r2, r3, hrun, Result.andThen_ok, Sem.run_pure]) (h.put_raw hob) hk
              · exact hk.elim
            · rename_i p k u hob hkv hcv
              obtain ⟨hp1, hk⟩ := hk
              obtain ⟨es, clk, hh, hp⟩ := h.minv _ _ hob
              obtain ⟨es', clk', hput, hp'⟩ := hp1 es clk hp
              have r1 := compE_ok hf ha
              rw [hx] at r1; simp only [Rep] at r1
              have r2 := kvalK_ok hkv (compE_ok hf hb)
              have r3 := cval_ok hcv (compE_ok hf hv')
              have hrun := run_mapUpdate_m hu hkd hd hkv hh hput
              exact wpIn_none_ hdf (by simp only [execOp, ho, Sem.run_bind, r1, r2, r3, hrun, Result.andThen_ok, Sem.run_pure]) (h.put_minv hob hp') hk
            · exact hk.elim
          · exact hk.elim
        split at hc
        · rename_i hd; cases hc; exact main true hd hk
        · split at hc
          · rename_i hd; cases hc; exact main false hd hk
          · cases hc
      · cases hc
    · cases hc
  case _ t x y ho => -- mapEntry
    have hdf : ∀ c, o.op ≠ .defer c := fun c e => by rw [ho] at e; cases e
    split at hc
    · rename_i kt et a' b' hu ha hb
      split at hc
      · rename_i kd i hkd hi
        split at hc
        · rename_i z hz
          split at hc
          · rename_i zc hzc
            have main : ∀ str, keyD str kd = true → vstep P Z (.ment str zc a' b') fr st K → o.wpIn (FR ro) 0 P a W (After B I a o.dst K) Q := fun str hd hk => by
              simp only [vstep] at hk
              split at hk
              · rename_i b hx
                split at hk
                · rename_i es clk k zv hob hkv hzv
                  split at hk
                  · rename_i v n es' clk' hent
                    obtain ⟨c, hc1, hk⟩ := optK_out hk
                    have r1 := compE_ok hf ha
                    rw [hx] at r1; simp only [Rep] at r1
                    have r2 := kvalK_ok hkv (compE_ok hf hb)
                    have ez : z = zv := cval_ok (I := I) hzv (toCell_ok hzc)
                    have hz' : (zeroValue et).run P W = .ok zv W := by simp [zeroValue, typeInfo, hi, hz, ez]
                    have hrun := run_mapEntry_m hu hkd hd hkv hz' (h.raw _ _ hob) hent
                    refine wpIn_value hdf (u := .tuple #[v, .int .i64 n]) (by simp only [execOp, ho, Sem.run_bind, r1, r2, hrun, Result.andThen_ok, Sem.run_pure]) (Im.le.refl _) (h.put_raw hob) ?_ hk
                    simp only [Rep]
                    exact ⟨_, rfl, toCell_ok hc1, by simp only [Rep], trivial⟩
                  · exact hk.elim
                · exact hk.elim
              · exact hk.elim
            split at hc
            · rename_i hd; cases hc; exact main true hd hk
            · split at hc
              · rename_i hd; cases hc; exact main false hd hk
              · cases hc
          · cases hc
        · cases hc
      · cases hc
    · cases hc
  case _ t x y v ho => -- entryStore
    have hdf : ∀ c, o.op ≠ .defer c := fun c e => by rw [ho] at e; cases e
    split at hc
    · rename_i a' b' c' ha hb hv'
      cases hc
      simp only [vstep] at hk
      split at hk
      · rename_i b q n hx hs
        split at hk
        · rename_i es clk u hob hcv
          split at hk
          · rename_i es' hset
            have r1 := compE_ok hf ha
            rw [hx] at r1; simp only [Rep] at r1
            have r2 := compE_ok hf hb
            rw [hs] at r2; simp only [Rep] at r2
            have r3 := cval_ok hcv (compE_ok hf hv')
            have hrun := run_entryStore_m (P := P) (t := t) (q := q) (h.raw _ _ hob) hset
            exact wpIn_none_ hdf (by simp only [execOp, ho, Sem.run_bind, r1, r2, r3, hrun, Result.andThen_ok, Sem.run_pure]) (h.put_raw hob) hk
          · exact hk.elim
        · exact hk.elim
      · exact hk.elim
    · cases hc
  case _ c ho => -- call
    have hd : ∀ c, o.op ≠ .defer c := fun c e => by rw [ho] at e; cases e
    split at hc
    case _ f hcal =>
      obtain ⟨es, hes, rfl⟩ := Option.map_eq_some_iff.1 hc
      simp only [vstep] at hk
      have ha := compEs_ok hf hes
      refine wpIn_calls hd (f := f) (vs := c.args.map a.eval) ?_ h (by simpa using ha) hz hk
      simp [execOp, ho, resolve, hcal, Act.eval, Deferred.ofValue, invoke, hk.1]
    case _ g hno hcal =>
      split at hc
      · rename_i e es he hes
        cases hc
        simp only [vstep] at hk
        have hg := compE_ok hf he
        have ha := compEs_ok hf hes
        split at hk
        · rename_i f fs cs hx
          rw [hx] at hg; simp only [Rep] at hg
          obtain ⟨us, vs, hgv, h1, h2⟩ := hg
          refine wpIn_calls hd (f := f) (vs := us ++ c.args.map a.eval ++ vs) ?_ h (by simpa using (h1.append ha).append h2) hz hk
          simp [execOp, ho, resolve, hcal, hgv, Deferred.ofValue, invoke, hk.1]
        · rename_i l hx
          rw [hx] at hg; simp only [Rep] at hg
          refine wpIn_yield hd (vs := c.args.map a.eval) ?_ h (by simpa using ha) hz hk
          simp [execOp, ho, resolve, hcal, hg, Deferred.ofValue, invoke]
        · exact hk.elim
      · cases hc
    case _ hcal =>
      split at hc
      · rename_i x t hx ht
        have hargs : c.args = #[x] := Array.ext' (by simpa using hx)
        have htys : c.argTypes = #[t] := Array.ext' (by simpa using ht)
        split at hc
        · rename_i el e hu he
          cases hc
          obtain ⟨v, hv, hk⟩ := vstep_val rfl hk
          obtain ⟨z, hz, hrz⟩ := vlen_ok (W := W) (ty := o.type) hu (compE_ok hf he) hv
          refine wpIn_value hd ?_ (Im.le.refl _) h hrz hk
          simp [execOp, ho, resolve, hcal, invoke, builtin, hargs, htys, hz]
        · rename_i e hu he
          cases hc
          obtain ⟨v, hv, hk⟩ := vstep_val rfl hk
          obtain ⟨z, hz, hrz⟩ := vlens_ok (W := W) (ty := o.type) hu (compE_ok hf he) hv
          refine wpIn_value hd ?_ (Im.le.refl _) h hrz hk
          simp [execOp, ho, resolve, hcal, invoke, builtin, hargs, htys, hz]
        · cases hc
      · cases hc
    case _ hcal =>
      split at hc
      · rename_i x xs hx
        cases hc
        obtain ⟨v, hv, hk⟩ := vstep_val rfl hk
        have ha := compEs_ok hf hx
        cases hargs : c.args.toList with
        | nil => rw [hargs] at ha; exact ha.elim
        | cons y ys =>
          rw [hargs] at ha
          obtain ⟨z, hz, hrz⟩ := vmnx_ok (P := P) (W := W) true _ _ _ _ _ ha.2 ha.1 hv
          have hargs' : c.args = (y :: ys).toArray := Array.ext' (by simpa using hargs)
          refine wpIn_value hd ?_ (Im.le.refl _) h hrz hk
          simp only [if_true] at hz
          simp [execOp, ho, resolve, hcal, invoke, builtin, hargs', Builtin.min_, hz]
      · cases hc
    case _ hcal =>
      split at hc
      · rename_i x xs hx
        cases hc
        obtain ⟨v, hv, hk⟩ := vstep_val rfl hk
        have ha := compEs_ok hf hx
        cases hargs : c.args.toList with
        | nil => rw [hargs] at ha; exact ha.elim
        | cons y ys =>
          rw [hargs] at ha
          obtain ⟨z, hz, hrz⟩ := vmnx_ok (P := P) (W := W) false _ _ _ _ _ ha.2 ha.1 hv
          have hargs' : c.args = (y :: ys).toArray := Array.ext' (by simpa using hargs)
          refine wpIn_value hd ?_ (Im.le.refl _) h hrz hk
          simp only [Bool.false_eq_true, if_false] at hz
          simp [execOp, ho, resolve, hcal, invoke, builtin, hargs', Builtin.max_, hz]
      · cases hc
    case _ hcal =>
      split at hc
      · rename_i x t hx ht
        have hargs : c.args = #[x] := Array.ext' (by simpa using hx)
        have htys : c.argTypes = #[t] := Array.ext' (by simpa using ht)
        split at hc
        · rename_i el e hu he
          split at hc
          · rename_i i hi
            split at hc
            · rename_i z hz'
              split at hc
              · rename_i hcond
                cases hc
                obtain ⟨hzs, hone⟩ := hcond
                simp only [vstep] at hk
                split at hk
                · rename_i b off m hx'
                  split at hk
                  · rename_i cs hob
                    obtain ⟨hle, hk⟩ := hk
                    obtain ⟨cc, hv⟩ := clrAt_rep hx' (compE_ok hf he)
                    obtain ⟨vs, ty, hb, hr⟩ := h.cells b cs hob
                    have hvl : vs.size = cs.length := by have := hr.length; simpa using this
                    have hzl : (Builtin.zeroCells z.cells m).toList.length = m * i.size := by rw [Array.length_toList, size_zeroCells, hzs]
                    have hzv : ∀ w, (zeroValue el).run P w = .ok z w := fun w => by simp [zeroValue, typeInfo, hi, hz']
                    by_cases hm : m = 0
                    · subst hm
                      refine wpIn_value hd (u := .tuple #[]) (W' := W) ?_ (Im.le.refl _) (h.weaken (s := st.ins b (.cells (cs.take off ++ List.replicate (0 * i.size) .undef ++ cs.drop (off + 0 * i.size)))) ?_) (by simp only [Rep]; exact ⟨_, rfl, by simp [RepL]⟩) hk
                      · simp [execOp, ho, resolve, hcal, invoke, builtin, hargs, htys, hv, Builtin.clear_, run_underlying hu]
                      · simp only [Nat.zero_mul, List.replicate_zero, List.append_nil, Nat.add_zero, List.take_append_drop]
                        exact ⟨fun x y e => by simp only [St.ins] at e; split at e; · (rename_i q; subst q; cases e; exact hob)
                                               exact e, fun _ e => e⟩
                    · have hst := h.store hob (off := off) (ys := List.replicate (m * i.size) .undef) (us := (Builtin.zeroCells z.cells m).toList) (by have := repL_undef I (Builtin.zeroCells z.cells m).toList; rwa [hzl] at this) (by simpa using hle)
                      rw [List.length_replicate] at hst
                      have hrun := run_clear_any (P := P) W t el o.type z hu hzv (List.all_eq_true.1 hone) b off m cc (by omega) (fun j hj => by
                        rw [cell_of hb]; have : off + j < vs.size := by rw [hzs] at hj; omega
                        simp [this]) (fun j hj => by simp [World.frozen?, hb])
                      refine wpIn_value hd (u := .tuple #[]) ?_ (Im.le.refl _) hst (by simp only [Rep]; exact ⟨_, rfl, by simp [RepL]⟩) hk
                      simp [execOp, ho, resolve, hcal, invoke, builtin, hargs, htys, hv, hrun]
                  · exact hk.elim
                · exact hk.elim
              · cases hc
            · cases hc
          · cases hc
        · cases hc
      · cases hc
    case _ hcal =>
      split at hc
      · rename_i x y t t' hx ht
        have hargs : c.args = #[x, y] := Array.ext' (by simpa using hx)
        have htys : c.argTypes = #[t, t'] := Array.ext' (by simpa using ht)
        split at hc
        · rename_i htt
          subst htt
          split at hc
          · rename_i el ex ey hu h1 h2
            split at hc
            · rename_i i hi
              split at hc
              · rename_i hcond
                cases hc
                obtain ⟨hp, hzs, hzz⟩ := hcond
                obtain ⟨z, hz'⟩ := Option.isSome_iff_exists.1 hzs
                simp only [vstep] at hk
                have r1 := compE_ok hf h1
                have r2 := compE_ok hf h2
                have hzs' : z.cells.size = i.size := by rw [hz'] at hzz; simpa using hzz
                rcases hk with hk | hk
                · unfold appA at hk
                  split at hk
                  · rename_i xs tk ys t2 e1 e2
                    rw [e1] at r1; rw [e2] at r2
                    obtain ⟨k1, k2, k3, k4, k5, hk⟩ := hk
                    obtain ⟨t', v, W', J, q1, q2, q3, q4, q5⟩ := append_ok h (ty := o.type) hu hi hz' hzs' hp r1 r2 k1 k2 k3 k4 k5
                    refine wpIn_value hd (u := v) ?_ q2 q4 q5 (hk t' q3)
                    simp [execOp, ho, resolve, hcal, invoke, builtin, hargs, htys, q1]
                  · exact hk.elim
                · unfold appB at hk
                  split at hk
                  · rename_i xs ys t2 e1 e2
                    rw [e1] at r1; rw [e2] at r2
                    obtain ⟨k1, k2, k3, k4, k5, hk⟩ := hk
                    obtain ⟨b, c, v, W', q1, q2, q3, q4, q5⟩ := append_new h (ty := o.type) hu hi hz' hzs' hp r1 r2 k1 k2 k3 k4 k5
                    refine wpIn_value hd (u := v) ?_ (Im.le.refl _) q4 q5 (hk b c _ q2 q3 (by simp))
                    simp [execOp, ho, resolve, hcal, invoke, builtin, hargs, htys, q1]
                  · rename_i b n c ys t2 e1 e2
                    rw [e1] at r1; rw [e2] at r2
                    obtain ⟨cs, k1, k2, k3, k4, k5, hk⟩ := hk
                    obtain ⟨b', c', rest, v, W', q1, q2, q3, q4, q5, q6⟩ := append_osl h (ty := o.type) hu hi hz' hzs' hp r1 k1 k2 r2 k3 k4 k5
                    refine wpIn_value hd (u := v) ?_ (Im.le.refl _) q5 q6 (hk b' c' rest q2 q3 q4)
                    simp [execOp, ho, resolve, hcal, invoke, builtin, hargs, htys, q1]
                  · exact hk.elim
              · cases hc
            · cases hc
          · cases hc
        · cases hc
      · cases hc
    · cases hc
  · cases hc
end
end Go.Proofs.YtglekfgoadehbaaDoor.V
end
section
set_option linter.unusedSimpArgs false
set_option linter.unusedVariables false
/- Rows of operations; orders that are drawn. -/
namespace Go.Proofs.YtglekfgoadehbaaDoor.V
open Go Go.RowKit
structure VOp where
  dst : Option Nat
  op : VO
  guard : Option (Nat × Bool)
  pre : List Nat
  ap : List (Nat × Nat)
  deriving Inhabited
def Fr.put (fr : Fr) (dst : Option Nat) (v : AV) : Fr := match dst with | none => fr | some d => { fr with t := fun i => if i = d then v else fr.t i }
def gd (g : Option (Nat × Bool)) (fr : Fr) : Option Bool := match g with
  | none => some true
  | some (t, want) => match fr.t t with
    | .bool b => some (b == want)
    | .no => some false
    | _ => none
section
variable (P : Program) (Z : Im)
def vop (o : VOp) (K : Fr → St → Prop) (fr : Fr) (st : St) : Prop :=
  match gd o.guard fr with
  | some b => (b = true → vstep P Z o.op fr st (fun v st' => K (fr.put o.dst v) st')) ∧ (b = false → K (fr.put o.dst .no) st)
  | none => False
def vops : List VOp → (Fr → St → Prop) → Fr → St → Prop
  | [], K, fr, st => K fr st
  | o :: r, K, fr, st => vop P Z o (vops r K) fr st
end
def dstOk (n : Nat) (d : Option Tmp) : Bool := match d with | some d => decide (d < n) | none => true
def compG (n : Nat) (ops : Array Oper) (g : Option (Nat × Bool)) : Option (Option (Nat × Bool)) := match g with
  | none => some none
  | some (j, want) => match (ops[j]?).bind (·.dst) with
    | some g => if g < n then some (some (g, want)) else none
    | none => none
def compOps (P : Program) (n : Nat) (ops : Array Oper) : List Oper → Option (List VOp)
  | [] => some []
  | o :: r => match compOp P o, compOps P n ops r, compG n ops o.guard, dstOk n o.dst with
    | some vo, some vs, some g, true => some (⟨o.dst, vo, g, (o.after.toList.filter (Region.binds .any)).map (·.on), []⟩ :: vs)
    | _, _, _, _ => none
variable {P : Program}
section
variable {B : Base} {I : Im} {st : St} {W : World} {fr : Fr} {a : Act} {n : Nat}
theorem FrRep.put (hf : FrRep I n fr a) {J : Im} (hle : I.le J) {dst : Option Tmp} (hd : ∀ d, dst = some d → d < n) {v : AV} {u : Value} (hv : Rep J v u) : FrRep J n (fr.put dst v) (a.put dst u) := by
  cases dst with
  | none => exact ⟨hf.size, fun i => (hf.rep i).mono hle, hf.defs, hf.glob.mono hle⟩
  | some d =>
    have hd := hd d rfl
    refine ⟨by simp [Act.put, hf.size], fun i => ?_, hf.defs, hf.glob.mono hle⟩
    simp only [Fr.put, Act.eval, Act.put]
    by_cases hi : i = d
    · subst hi
      have : i < a.tmps.size := by rw [hf.size]; exact hd
      simp only [if_true]
      rw [Array.getD_eq_getD_getElem?, Array.getElem?_setIfInBounds_self_of_lt this]
      exact hv
    · rw [if_neg hi]
      have := (hf.rep i).mono hle
      simp only [Act.eval] at this
      rw [Array.getD_eq_getD_getElem?] at this ⊢
      rw [Array.getElem?_setIfInBounds_ne (fun e => hi e.symm)]
      exact this
structure Fits (P : Program) (n : Nat) (ops : Array Oper) (o : Oper) (v : VOp) : Prop where
  op : compOp P o = some v.op
  dst : v.dst = o.dst
  lt : ∀ d, o.dst = some d → d < n
  guard : (o.guard = none ∧ v.guard = none) ∨ ∃ j want g, o.guard = some (j, want) ∧ v.guard = some (g, want) ∧ (ops[j]?).bind (·.dst) = some g ∧ g < n
  pre : v.pre = (o.after.toList.filter (Region.binds .any)).map (·.on)
theorem compOps_ok {ops : Array Oper} : ∀ {l : List Oper} {vs : List VOp}, compOps P n ops l = some vs → vs.length = l.length ∧ ∀ (i : Nat) o v, l[i]? = some o → vs[i]? = some v → Fits P n ops o v
  | [], vs, h => by simp [compOps] at h; subst h; simp
  | o :: r, vs, h => by
    unfold compOps at h
    split at h
    · rename_i vo vs' g h1 h2 h3 h4
      obtain ⟨hl, hr⟩ := compOps_ok h2
      cases h
      refine ⟨by simp [hl], fun i o' v hi hv => ?_⟩
      cases i with
      | succ i => exact hr i o' v (by simpa using hi) (by simpa using hv)
      | zero =>
        simp at hi hv; subst hi hv
        refine ⟨h1, rfl, fun d e => by rw [e] at h4; simpa [dstOk] using h4, ?_, rfl⟩
        unfold compG at h3
        split at h3
        · rename_i hg; cases h3; exact .inl ⟨hg, rfl⟩
        · rename_i j want hg
          split at h3
          · rename_i g' hgj
            obtain ⟨hlt, rfl⟩ := ite_some h3
            exact .inr ⟨j, want, g', hg, rfl, hgj, hlt⟩
          · cases h3
    · cases h
theorem wanted_of (hf : FrRep I n fr a) {ops : Array Oper} {o : Oper} {v : VOp} (h : Fits P n ops o v) {b : Bool} (hg : gd v.guard fr = some b) : Region.wanted o (yielded ops a.tmps) = b := by
  rcases h.guard with ⟨h1, h2⟩ | ⟨j, want, g, h1, h2, h3, h4⟩
  · rw [h2] at hg; simp [gd] at hg; subst hg; simp [Region.wanted, h1]
  · rw [h2] at hg
    simp only [gd] at hg
    have hr := hf.rep g
    have hlt : g < a.tmps.size := by rw [hf.size]; exact h4
    have hget : a.eval (.tmp g) = a.tmps[g] := by simp [Act.eval, hlt]
    split at hg
    · rename_i bb hb
      rw [hb] at hr; simp only [Rep] at hr
      cases hg
      have : a.tmps[g]? = some (.bool bb) := by rw [Array.getElem?_eq_getElem hlt, ← hget, hr]
      simp only [Region.wanted, h1, yielded, h3, Option.bind_some, this]
      cases bb <;> cases want <;> rfl
    · rename_i hb
      rw [hb] at hr; simp only [Rep] at hr
      cases hg
      have : a.tmps[g]? = some Go.undef := by rw [Array.getElem?_eq_getElem hlt, ← hget, hr]
      simp only [Region.wanted, h1, yielded, h3, Option.bind_some, this, Go.undef]
      cases want <;> rfl
    · cases hg
theorem vops_ok {Z : Im} {ro : Option Nat} {ops : Array Oper} {cl : List VOp} (hcl : ∀ (i : Nat) o, ops[i]? = some o → ∃ v, cl[i]? = some v ∧ Fits P n ops o v) {Q : Exit → Act → World → Prop} {K : Fr → St → Prop} :
    ∀ (l : List Nat) (I : Im) (fr : Fr) (st : St) (a : Act) (W : World), (∀ i ∈ l, i < ops.size) → Z.le I → vops P Z (l.filterMap (cl[·]?)) K fr st → Rel B I st W → FrRep I n fr a →
      (∀ J fr' st' a' W', I.le J → Rel B J st' W' → FrRep J n fr' a' → K fr' st' → Q .normal a' W') → wpOpsIn (FR ro) 0 P ops Q l a W
  | [], I, fr, st, a, W, _, _, hv, h, hf, hq => hq I fr st a W (Im.le.refl _) h hf hv
  | i :: l, I, fr, st, a, W, hl, hz, hv, h, hf, hq => by
    have hi := hl i (by simp)
    obtain ⟨v, hv1, hfit⟩ := hcl i _ (Array.getElem?_eq_getElem hi)
    rw [List.filterMap_cons_some hv1] at hv
    simp only [vops, vop] at hv
    have hlt : ∀ d, v.dst = some d → d < n := fun d e => hfit.lt d (hfit.dst ▸ e)
    simp only [wpOpsIn, Array.getElem?_eq_getElem hi]
    split at hv
    · rename_i b hg
      have hw := wanted_of hf hfit hg
      cases b with
      | true =>
        rw [hw]
        simp only [if_true]
        refine Oper.wpIn_mono (fun a' W' => ?_) (vstep_ok (ro := ro) (Q := Q) hfit.op h hf hz (hv.1 rfl))
        rintro ⟨v', st', u, J, hle, hr, hvu, rfl, hk⟩
        rw [← hfit.dst]
        exact vops_ok hcl l J _ st' _ W' (fun j hj => hl j (by simp [hj])) (hz.trans hle) hk hr (hf.put hle hlt hvu) (fun J' fr' st'' a' W'' hle' => hq J' fr' st'' a' W'' (hle.trans hle'))
      | false =>
        rw [hw]
        simp only [Bool.false_eq_true, if_false]
        refine ⟨fun f _ => trivial, ?_⟩
        rw [← hfit.dst]
        exact vops_ok hcl l I _ st _ W (fun j hj => hl j (by simp [hj])) hz (hv.2 rfl) h (hf.put (Im.le.refl _) hlt (by simp only [Rep])) hq
    · exact hv.elim
end
end Go.Proofs.YtglekfgoadehbaaDoor.V
end
section
set_option linter.unusedSimpArgs false
set_option linter.unusedVariables false
/- Orders that are drawn: what commutes. -/
namespace Go.Proofs.YtglekfgoadehbaaDoor.V
open Go Go.RowKit
def VO.opnds : VO → List VE
  | .mov x | .nchk x | .un _ x | .conv _ x | .fad _ x | .fld _ _ _ x | .ext x _ | .len x | .lens x | .box x | .load _ _ x => [x]
  | .pick c a b => [c, a, b]
  | .build _ ps => ps.map (·.2.2)
  | .bsl _ xs => xs
  | .bin _ x y | .eqs _ _ x y | .eqs1 _ x y | .iad _ x y | .iaa _ _ x y | .ixa _ _ _ x y | .ixs x y | .store _ x y | .app _ _ x y => [x, y]
  | .mkf _ fs cs => fs ++ cs
  | .slc _ x lo hi mx => x :: (lo.toList ++ hi.toList ++ mx.toList)
  | .mnx _ x xs => x :: xs
  | .alloc _ => []
  | .isnil _ x => [x]
  | .mkm => []
  | .mlk _ _ _ x i => [x, i]
  | .mup _ x i v => [x, i, v]
  | .ment _ _ x i => [x, i]
  | .mst x s v => [x, s, v]
  | .clr _ x => [x]
  | .bad => []
  | .call _ xs => xs
  | .callv g xs => g :: xs
def VE.rd : VE → Option Nat | .t i => some i | .c _ => none
def VOp.rd (o : VOp) : List Nat := o.op.opnds.filterMap VE.rd ++ ((match o.guard with | some (g, _) => [g] | none => []) ++ o.ap.map (·.2))
inductive Cls where | N | L | B | S | A | X
  deriving DecidableEq
def VO.cls : VO → Cls
  | .load .. => .L
  | .box _ | .alloc _ => .B
  | .store .. => .S
  | .app .. => .A
  | .isnil .. | .mkm | .mlk .. | .mup .. | .ment .. | .mst .. | .clr .. | .bad => .X
  | _ => .N
def VO.isCall : VO → Bool | .call .. | .callv .. => true | _ => false
def loadAp (o1 : VO) (ap : List (Nat × Nat)) : Bool := match o1 with | .load _ _ (.t i) => (ap.map (·.2)).contains i | _ => false
def clsOk (o1 o2 : VO) (ap : List (Nat × Nat)) : Bool := match o1.cls, o2.cls with
  | .N, .X => false
  | .N, _ => true
  | .L, .N | .L, .L | .L, .B | .L, .A => true
  | .L, .S => loadAp o1 ap
  | .S, .N => true
  | .A, .N | .A, .L => !o2.isCall
  | _, _ => false
def indep (o1 o2 : VOp) : Bool :=
  clsOk o1.op o2.op o2.ap && (match o1.dst with | some d => !o2.rd.contains d && o2.dst != some d | none => true) && (match o2.dst with | some d => !o1.rd.contains d | none => true)
section
variable (P : Program)
def VPure (f : Nat) (args : List AV) (v : AV) : Prop := ∀ (Z : Im) (st : St), VCalls P Z f args st (fun r st' => r = v ∧ st' = st)
def mOf (st : St) : Nat → Option (Array MapEntry → Nat → Prop) := fun b => match st.objs b with | some (.minv p) => some p | _ => none
def VPureM (f : Nat) (args : List AV) (v : AV) (m : Nat → Option (Array MapEntry → Nat → Prop)) : Prop := ∀ (Z : Im) (st : St), mOf st = m → VCalls P Z f args st (fun r st' => r = v ∧ st' = st)
variable (Z : Im)
def vstepD (o : VO) (fr : Fr) (st : St) (K : AV → St → Prop) : Prop :=
  match o with
  | .call f args => ∃ v, VPureM P f (VE.evs fr args) v (mOf st) ∧ K v st
  | .callv g args => match g.ev fr with
    | .clo f fs cs => ∃ v, VPureM P f (fs ++ VE.evs fr args ++ cs) v (mOf st) ∧ K v st
    | _ => False
  | .app sz bytes s x => appA (s.ev fr) (x.ev fr) sz bytes st K
  | o => vstep P Z o fr st K
def apOk (o : VOp) (fr : Fr) : Prop := match o.op with
  | .store _ x _ => ∀ i ∈ o.ap.map (·.2), ∀ b off b' off', fr.t i = .ptr b off → x.ev fr = .ptr b' off' → b ≠ b'
  | _ => True
def vopD (o : VOp) (K : Fr → St → Prop) (fr : Fr) (st : St) : Prop :=
  match gd o.guard fr with
  | some b => (b = true → apOk o fr ∧ vstepD P Z o.op fr st (fun v st' => K (fr.put o.dst v) st')) ∧ (b = false → K (fr.put o.dst .no) st)
  | none => False
def VOp.bar (o : VOp) : Bool := (match o.op with | .call .. | .callv .. | .app .. => true | _ => false) && !o.ap.isEmpty
def vopE (o : VOp) (K : Fr → St → Prop) (fr : Fr) (st : St) : Prop := if o.bar then vop P Z o K fr st else vopD P Z o K fr st
def vopsD : List VOp → (Fr → St → Prop) → Fr → St → Prop
  | [], K, fr, st => K fr st
  | o :: r, K, fr, st => vopE P Z o (vopsD r K) fr st
end
variable {P : Program} {Z : Im}
theorem optK_mono {x : Option AV} {K K' : AV → Prop} (h : optK x K) (hk : ∀ v, K v → K' v) : optK x K' := by
  cases x with
  | none => exact h
  | some v => exact hk v h
theorem vstep_mono {o : VO} {fr : Fr} {st : St} {K K' : AV → St → Prop} (h : vstep P Z o fr st K) (hk : ∀ v s, K v s → K' v s) : vstep P Z o fr st K' := by
  cases o <;> simp only [vstep] at h ⊢
  case box => exact ⟨h.1, fun b hb => hk _ _ (h.2 b hb)⟩
  case alloc => exact fun b hb => hk _ _ (h b hb)
  case slc => exact ⟨h.1, optK_mono h.2 (fun v => hk v st)⟩
  case store =>
    split at h
    · split at h
      · obtain ⟨h1, h2, h3, h4, h5⟩ := h; exact ⟨h1, h2, h3, h4, hk _ _ h5⟩
      · exact h
    · exact h
  case app => exact h.imp (appA_mono · hk) (appB_mono · hk)
  case call => exact h.mono hk
  case callv =>
    split at h
    · exact h.mono hk
    · exact VYield.mono h hk
    · exact h
  case isnil =>
    split at h
    · exact fun b hb => hk _ _ (h b hb)
    · exact h
  case mkm => exact fun b hb => hk _ _ (h b hb)
  case mlk =>
    split at h
    · split at h
      · exact optK_mono h (fun v => hk v st)
      · exact fun es clk hp => optK_mono (h es clk hp) (fun v => hk v st)
      · exact h
    · exact h
  case mup =>
    split at h
    · split at h
      · split at h
        · exact hk _ _ h
        · exact h
      · exact ⟨h.1, hk _ _ h.2⟩
      · exact h
    · exact h
  case ment =>
    split at h
    · split at h
      · split at h
        · exact optK_mono h (fun v => hk _ _)
        · exact h
      · exact h
    · exact h
  case mst =>
    split at h
    · split at h
      · split at h
        · exact hk _ _ h
        · exact h
      · exact h
    · exact h
  case clr =>
    split at h
    · split at h
      · exact ⟨h.1, hk _ _ h.2⟩
      · exact h
    · exact h
  all_goals exact optK_mono h (fun v => hk v st)
theorem vstepD_mono {o : VO} {fr : Fr} {st : St} {K K' : AV → St → Prop} (h : vstepD P Z o fr st K) (hk : ∀ v s, K v s → K' v s) : vstepD P Z o fr st K' := by
  cases o
  case call => obtain ⟨v, h1, h2⟩ := h; exact ⟨v, h1, hk _ _ h2⟩
  case callv g args =>
    simp only [vstepD] at h ⊢
    split at h
    · obtain ⟨v, h1, h2⟩ := h; exact ⟨v, h1, hk _ _ h2⟩
    · exact h
  case app => exact appA_mono h hk
  all_goals (simp only [vstepD] at h ⊢; exact vstep_mono h hk)
theorem vstep_of_D {o : VO} {fr : Fr} {st : St} {K : AV → St → Prop} (h : vstepD P Z o fr st K) : vstep P Z o fr st K := by
  cases o
  case call => obtain ⟨v, h1, h2⟩ := h; exact (h1 Z st rfl).mono (fun _ _ e => by rw [e.1, e.2]; exact h2)
  case callv g args =>
    simp only [vstepD] at h
    simp only [vstep]
    cases hg : g.ev fr <;> rw [hg] at h <;> simp only at h
    obtain ⟨v, h1, h2⟩ := h; exact (h1 Z st rfl).mono (fun _ _ e => by rw [e.1, e.2]; exact h2)
  case app => exact .inl h
  all_goals exact h
theorem vopD_mono {o : VOp} {K K' : Fr → St → Prop} {fr : Fr} {st : St} (h : vopD P Z o K fr st) (hk : ∀ f s, K f s → K' f s) : vopD P Z o K' fr st := by
  unfold vopD at h ⊢
  split at h
  · exact ⟨fun e => ⟨(h.1 e).1, vstepD_mono (h.1 e).2 (fun _ _ => hk _ _)⟩, fun e => hk _ _ (h.2 e)⟩
  · exact h
theorem vop_of_D {o : VOp} {K : Fr → St → Prop} {fr : Fr} {st : St} (h : vopD P Z o K fr st) : vop P Z o K fr st := by
  unfold vopD at h; unfold vop
  cases hg : gd o.guard fr with
  | none => rw [hg] at h; exact h
  | some b => rw [hg] at h; exact ⟨fun e => vstep_of_D (h.1 e).2, h.2⟩
theorem vop_mono {o : VOp} {K K' : Fr → St → Prop} {fr : Fr} {st : St} (h : vop P Z o K fr st) (hk : ∀ f s, K f s → K' f s) : vop P Z o K' fr st := by
  unfold vop at h ⊢
  split at h
  · exact ⟨fun e => vstep_mono (h.1 e) (fun _ _ => hk _ _), fun e => hk _ _ (h.2 e)⟩
  · exact h
theorem vops_mono {K K' : Fr → St → Prop} (hk : ∀ f s, K f s → K' f s) : ∀ {l : List VOp} {fr : Fr} {st : St}, vops P Z l K fr st → vops P Z l K' fr st
  | [], _, _, h => hk _ _ h
  | _ :: _, _, _, h => vop_mono h (fun _ _ => vops_mono hk)
theorem vopE_mono {o : VOp} {K K' : Fr → St → Prop} {fr : Fr} {st : St} (h : vopE P Z o K fr st) (hk : ∀ f s, K f s → K' f s) : vopE P Z o K' fr st := by
  unfold vopE at h ⊢
  split at h
  · rename_i hb; rw [if_pos hb]; exact vop_mono h hk
  · rename_i hb; rw [if_neg hb]; exact vopD_mono h hk
theorem vop_of_E {o : VOp} {K : Fr → St → Prop} {fr : Fr} {st : St} (h : vopE P Z o K fr st) : vop P Z o K fr st := by
  unfold vopE at h
  split at h
  · exact h
  · exact vop_of_D h
theorem vopsD_mono {K K' : Fr → St → Prop} (hk : ∀ f s, K f s → K' f s) : ∀ {l : List VOp} {fr : Fr} {st : St}, vopsD P Z l K fr st → vopsD P Z l K' fr st
  | [], _, _, h => hk _ _ h
  | _ :: _, _, _, h => vopE_mono h (fun _ _ => vopsD_mono hk)
/-! ### Frames that agree where an operation looks -/
def Agree (xs : List VE) (fr fr' : Fr) : Prop := ∀ x ∈ xs, x.ev fr = x.ev fr'
theorem evs_congr {xs : List VE} {fr fr' : Fr} (h : Agree xs fr fr') : VE.evs fr xs = VE.evs fr' xs := List.map_congr_left h
theorem vval_congr {o : VO} {fr fr' : Fr} {st : St} (h : Agree o.opnds fr fr') : vval o fr st = vval o fr' st := by
  cases o <;> simp only [VO.opnds, Agree, List.mem_cons, List.not_mem_nil, or_false, forall_eq, forall_eq_or_imp, List.mem_append, Option.mem_toList, List.mem_map] at h <;> simp only [vval]
  case build z ps =>
    congr 2
    exact List.map_congr_left (fun q hq => by rw [h q.2.2 ⟨q, hq, rfl⟩])
  case bsl => rw [evs_congr h]
  case mkf => rw [evs_congr (fun x hx => h x (.inl hx)), evs_congr (fun x hx => h x (.inr hx))]
  case mnx => rw [h.1, evs_congr h.2]
  case slc sz x lo hi mx =>
    have e1 : ∀ (y : Option VE), (∀ z, y = some z → z.ev fr = z.ev fr') → y.map (·.ev fr) = y.map (·.ev fr') := fun y hy => by
      cases y with
      | none => rfl
      | some z => simp [hy z rfl]
    rw [h.1, e1 lo (fun z hz => h.2 z (.inl (.inl hz))), e1 hi (fun z hz => h.2 z (.inl (.inr hz))), e1 mx (fun z hz => h.2 z (.inr hz))]
  all_goals first
    | rfl
    | rw [h]
    | rw [h.1, h.2]
    | rw [h.1, h.2.1, h.2.2]
theorem vstepD_congr {o : VO} {fr fr' : Fr} {st : St} {K : AV → St → Prop} (h : Agree o.opnds fr fr') : vstepD P Z o fr st K ↔ vstepD P Z o fr' st K := by
  have hv := vval_congr (st := st) h
  cases o <;> simp only [VO.opnds, Agree, List.mem_cons, List.not_mem_nil, or_false, forall_eq, forall_eq_or_imp, List.mem_append, Option.mem_toList, List.mem_map] at h <;> simp only [vstepD, vstep]
  case slc => simp only [vval] at hv; rw [hv, h.1]
  case box => rw [h]
  case store => rw [h.1, h.2]
  case app => rw [h.1, h.2]
  case call => rw [evs_congr h]
  case callv => rw [h.1, evs_congr h.2]
  case isnil => rw [h]
  case mlk => rw [h.1, h.2]
  case mup => rw [h.1, h.2.1, h.2.2]
  case ment => rw [h.1, h.2]
  case mst => rw [h.1, h.2.1, h.2.2]
  case clr => rw [h]
  all_goals first | rw [hv] | exact Iff.rfl
theorem put_put (fr : Fr) (d e : Option Nat) (v w : AV) (h : ∀ x, d = some x → e ≠ some x) : (fr.put d v).put e w = (fr.put e w).put d v := by
  cases d with
  | none => rfl
  | some x => cases e with
    | none => rfl
    | some y =>
      have hne : y ≠ x := fun q => h x rfl (by rw [q])
      simp only [Fr.put]
      congr 1
      funext i
      by_cases h1 : i = y
      · subst h1; simp [hne]
      · by_cases h2 : i = x
        · subst h2; simp [h1]
        · simp [h1, h2]
theorem agree_put {o : VOp} {d : Option Nat} (fr : Fr) (v : AV) (h : ∀ x, d = some x → x ∉ o.rd) : Agree o.op.opnds (fr.put d v) fr := fun x hx => by
  cases x with
  | c a => rfl
  | t i => cases d with
    | none => rfl
    | some y =>
      have : i ≠ y := fun q => h y rfl (by subst q; exact List.mem_append_left _ (List.mem_filterMap.2 ⟨_, hx, rfl⟩))
      simp [VE.ev, Fr.put, this]
theorem gd_put {o : VOp} {d : Option Nat} (fr : Fr) (v : AV) (h : ∀ x, d = some x → x ∉ o.rd) : gd o.guard (fr.put d v) = gd o.guard fr := by
  cases hg : o.guard with
  | none => rfl
  | some g =>
    obtain ⟨t, want⟩ := g
    cases d with
    | none => rfl
    | some y =>
      have : t ≠ y := fun q => h y rfl (by subst q; exact List.mem_append_right _ (List.mem_append_left _ (by rw [hg]; simp)))
      simp [gd, Fr.put, this]
theorem apOk_put {o : VOp} {d : Option Nat} (fr : Fr) (v : AV) (h : ∀ x, d = some x → x ∉ o.rd) : apOk o (fr.put d v) ↔ apOk o fr := by
  have ha := agree_put fr v h
  unfold apOk
  cases ho : o.op <;> try exact Iff.rfl
  rename_i n x w
  have hx : x.ev (fr.put d v) = x.ev fr := ha x (by rw [ho]; simp [VO.opnds])
  have ht : ∀ i ∈ o.ap.map (·.2), (fr.put d v).t i = fr.t i := fun i hi => by
    cases d with
    | none => rfl
    | some y =>
      have : i ≠ y := fun q => h y rfl (by subst q; exact List.mem_append_right _ (List.mem_append_right _ hi))
      simp [Fr.put, this]
  constructor
  · intro hh i hi b off b' off' e1 e2; exact hh i hi b off b' off' (by rw [ht i hi]; exact e1) (by rw [hx]; exact e2)
  · intro hh i hi b off b' off' e1 e2; exact hh i hi b off b' off' (by rw [← ht i hi]; exact e1) (by rw [← hx]; exact e2)
end Go.Proofs.YtglekfgoadehbaaDoor.V
end
section
set_option linter.unusedSimpArgs false
set_option linter.unusedVariables false
/- Two operations that commute; any order that keeps what must be kept. -/
namespace Go.Proofs.YtglekfgoadehbaaDoor.V
open Go Go.RowKit
variable {P : Program} {Z : Im}
def RO (P : Program) (o : VO) (fr : Fr) (st : St) (v : AV) : Prop :=
  match o with
  | .call f args => VPureM P f (VE.evs fr args) v (mOf st)
  | .callv g args => match g.ev fr with
    | .clo f fs cs => VPureM P f (fs ++ VE.evs fr args ++ cs) v (mOf st)
    | _ => False
  | .slc sz x lo hi mx => (lo.isSome = true → match x.ev fr with | .sl xs _ => 0 < sz ∧ ∀ y ∈ xs, y.cells.length = sz | .osl _ _ _ => True | _ => False) ∧ vslx sz (x.ev fr) (lo.map (·.ev fr)) (hi.map (·.ev fr)) (mx.map (·.ev fr)) = some v
  | o => vval o fr st = some v
theorem optK_iff {x : Option AV} {K : AV → Prop} : optK x K ↔ ∃ v, x = some v ∧ K v :=
  ⟨optK_out, fun ⟨v, h, k⟩ => by rw [h]; exact k⟩
theorem val_iff {o : VO} (hc : o.cls = .N ∨ o.cls = .L) {fr : Fr} {st : St} {K : AV → St → Prop} : vstepD P Z o fr st K ↔ ∃ v, RO P o fr st v ∧ K v st := by
  cases o <;> simp only [VO.cls, reduceCtorEq, or_false, or_true, or_self] at hc
  case call => exact Iff.rfl
  case callv g args =>
    simp only [vstepD, RO]
    cases g.ev fr <;> simp
  case slc =>
    simp only [vstepD, vstep, RO, optK_iff]
    exact ⟨fun ⟨h, v, h1, h2⟩ => ⟨v, ⟨h, h1⟩, h2⟩, fun ⟨v, ⟨h, h1⟩, h2⟩ => ⟨h, v, h1, h2⟩⟩
  all_goals (simp only [vstepD, vstep, RO, optK_iff])
theorem mOf_ins {st : St} {b : Nat} {cs : List AV} (hb : ∀ p, st.objs b ≠ some (.minv p)) : mOf (st.ins b (.cells cs)) = mOf st := by
  funext i
  simp only [mOf, St.ins]
  by_cases hi : i = b
  · subst hi
    rw [if_pos rfl]
    cases e : st.objs i with
    | none => rfl
    | some o => cases o with
      | minv p => exact absurd e (hb p)
      | _ => rfl
  · rw [if_neg hi]
theorem RO_state {o : VO} (hc : o.cls = .N) {fr : Fr} {st st' : St} (hm : mOf st = mOf st') {v : AV} : RO P o fr st v ↔ RO P o fr st' v := by
  cases o <;> simp only [VO.cls, reduceCtorEq] at hc <;> simp only [RO, vval, hm]
theorem vload_ins {st : St} {b : Nat} {x : AObj} (hb : st.objs b = none) {a v : AV} {n : Nat} {ag : Bool} (h : vload st a n ag = some v) : vload (st.ins b x) a n ag = some v := by
  unfold vload at h ⊢
  split at h
  · rename_i b' off
    split at h
    · rename_i cs hcs
      have hne : b' ≠ b := fun e => by rw [e, hb] at hcs; cases hcs
      simp only [St.ins, if_neg hne, hcs]; exact h
    · cases h
  · exact h
  · cases h
theorem RO_ins {o : VO} (hc : o.cls = .N ∨ o.cls = .L) {fr : Fr} {st : St} {b : Nat} {cs : List AV} (hb : st.objs b = none) {v : AV} (h : RO P o fr st v) : RO P o fr (st.ins b (.cells cs)) v := by
  rcases hc with hc | hc
  · exact (RO_state hc (mOf_ins (fun p => by rw [hb]; simp)).symm).1 h
  · cases o <;> simp only [VO.cls, reduceCtorEq] at hc
    exact vload_ins hb h
theorem objs_tok (st : St) (t t' : Tok) : ((st.kill t).add t').objs = st.objs := by cases t <;> cases t' <;> rfl
theorem RO_tok {o : VO} (hc : o.cls = .N ∨ o.cls = .L) {fr : Fr} {st st' : St} (hb : st'.objs = st.objs) {v : AV} : RO P o fr st' v ↔ RO P o fr st v := by
  rcases hc with hc | hc
  · exact RO_state hc (by funext i; simp only [mOf, hb])
  · cases o <;> simp only [VO.cls, reduceCtorEq] at hc
    simp only [RO, vval, vload, hb]
theorem RO_fun {o : VO} (hc : o.cls = .N ∨ o.cls = .L) (hn : o.isCall = false) {fr : Fr} {st : St} {v w : AV} (h : RO P o fr st v) (k : RO P o fr st w) : v = w := by
  cases o <;> simp only [VO.isCall, Bool.true_eq_false] at hn <;> simp only [VO.cls, reduceCtorEq, or_self] at hc <;> simp only [RO] at h k
  case slc => have := h.2.symm.trans k.2; exact Option.some.inj this
  all_goals (exact Option.some.inj (h.symm.trans k))
def vact (P : Program) (Z : Im) (b : Bool) (o : VOp) (K : Fr → St → Prop) (fr : Fr) (st : St) : Prop :=
  if b then apOk o fr ∧ vstepD P Z o.op fr st (fun v st' => K (fr.put o.dst v) st') else K (fr.put o.dst .no) st
theorem vopD_iff {o : VOp} {K : Fr → St → Prop} {fr : Fr} {st : St} : vopD P Z o K fr st ↔ ∃ b, gd o.guard fr = some b ∧ vact P Z b o K fr st := by
  unfold vopD
  cases hg : gd o.guard fr with
  | none => simp
  | some b => cases b <;> simp [vact]
theorem swap {o1 o2 : VOp} (h : indep o1 o2 = true) {K : Fr → St → Prop} {fr : Fr} {st : St} (hk : vopD P Z o1 (vopD P Z o2 K) fr st) : vopD P Z o2 (vopD P Z o1 K) fr st := by
  simp only [indep, Bool.and_eq_true] at h
  obtain ⟨⟨hcls, hd1⟩, hd2⟩ := h
  have D1 : ∀ x, o1.dst = some x → x ∉ o2.rd := fun x e => by rw [e] at hd1; simp at hd1; exact hd1.1
  have D12 : ∀ x, o1.dst = some x → o2.dst ≠ some x := fun x e => by rw [e] at hd1; simp at hd1; exact fun q => hd1.2 q
  have D2 : ∀ x, o2.dst = some x → x ∉ o1.rd := fun x e => by rw [e] at hd2; simpa using hd2
  have D21 : ∀ x, o2.dst = some x → o1.dst ≠ some x := fun x e q => D12 x q e
  have pp : ∀ (f : Fr) v w, (f.put o1.dst v).put o2.dst w = (f.put o2.dst w).put o1.dst v := fun f v w => put_put f _ _ v w D12
  have g1 : ∀ f v, gd o1.guard (f.put o2.dst v) = gd o1.guard f := fun f v => gd_put f v D2
  have g2 : ∀ f v, gd o2.guard (f.put o1.dst v) = gd o2.guard f := fun f v => gd_put f v D1
  have a1 : ∀ f v, Agree o1.op.opnds (f.put o2.dst v) f := fun f v => agree_put f v D2
  have a2 : ∀ f v, Agree o2.op.opnds (f.put o1.dst v) f := fun f v => agree_put f v D1
  obtain ⟨b1, e1, k1⟩ := vopD_iff.1 hk
  cases b1 with
  | false =>
    simp only [vact, Bool.false_eq_true, if_false] at k1
    obtain ⟨b2, e2, k2⟩ := vopD_iff.1 k1
    rw [g2] at e2
    refine vopD_iff.2 ⟨b2, e2, ?_⟩
    cases b2 with
    | false =>
      simp only [vact, Bool.false_eq_true, if_false] at k2 ⊢
      exact vopD_iff.2 ⟨false, by rw [g1]; exact e1, by simp only [vact, Bool.false_eq_true, if_false]; rw [← pp]; exact k2⟩
    | true =>
      simp only [vact, if_true] at k2 ⊢
      obtain ⟨kap, k2⟩ := k2
      rw [vstepD_congr (a2 _ _)] at k2
      refine ⟨(apOk_put fr _ D1).1 kap, vstepD_mono k2 (fun v s hv => ?_)⟩
      exact vopD_iff.2 ⟨false, by rw [g1]; exact e1, by simp only [vact, Bool.false_eq_true, if_false]; rw [← pp]; exact hv⟩
  | true =>
    simp only [vact, if_true] at k1
    obtain ⟨kap1, k1⟩ := k1
    cases e2 : gd o2.guard fr with
    | none =>
      -- nothing can come behind the first
      exfalso
      have hnone : ∀ v s, ¬ vopD P Z o2 K (fr.put o1.dst v) s := fun v s hh => by
        obtain ⟨b2, q, _⟩ := vopD_iff.1 hh
        rw [g2, e2] at q; cases q
      cases hc1 : o1.op.cls with
      | N => obtain ⟨v, _, hv⟩ := (val_iff (.inl hc1)).1 k1; exact hnone _ _ hv
      | L => obtain ⟨v, _, hv⟩ := (val_iff (.inr hc1)).1 k1; exact hnone _ _ hv
      | B => rw [clsOk, hc1] at hcls; cases hc2 : o2.op.cls <;> rw [hc2] at hcls <;> simp at hcls
      | X => rw [clsOk, hc1] at hcls; cases hc2 : o2.op.cls <;> rw [hc2] at hcls <;> simp at hcls
      | S =>
        cases ho : o1.op <;> rw [ho] at hc1 <;> simp only [VO.cls, reduceCtorEq] at hc1
        rw [ho] at k1; simp only [vstepD, vstep, appA] at k1
        split at k1
        · split at k1
          · exact hnone _ _ k1.2.2.2.2
          · exact k1
        · exact k1
      | A =>
        cases ho : o1.op <;> rw [ho] at hc1 <;> simp only [VO.cls, reduceCtorEq] at hc1
        rw [ho] at k1; simp only [vstepD, vstep, appA] at k1
        split at k1
        · exact hnone _ _ (k1.2.2.2.2.2 .full trivial)
        · exact k1
    | some b2 =>
      refine vopD_iff.2 ⟨b2, e2, ?_⟩
      have inner : ∀ v s, vopD P Z o2 K (fr.put o1.dst v) s → vact P Z b2 o2 K (fr.put o1.dst v) s := fun v s hh => by
        obtain ⟨b, q, hb⟩ := vopD_iff.1 hh
        rw [g2, e2] at q; cases q; exact hb
      have outer : ∀ w s, vstepD P Z o1.op fr s (fun v st' => K ((fr.put o2.dst w).put o1.dst v) st') → vopD P Z o1 K (fr.put o2.dst w) s := fun w s hh =>
        vopD_iff.2 ⟨true, by rw [g1]; exact e1, by simp only [vact, if_true]; exact ⟨(apOk_put fr _ D2).2 kap1, by rw [vstepD_congr (a1 _ _)]; exact hh⟩⟩
      have k1 := vstepD_mono k1 inner
      cases b2 with
      | false =>
        simp only [vact, Bool.false_eq_true, if_false] at k1 ⊢
        exact outer _ _ (vstepD_mono k1 (fun v s hv => by rw [← pp]; exact hv))
      | true =>
        simp only [vact, if_true] at k1 ⊢
        -- the second's own look is the same
        have kap2 : apOk o2 fr := by
          have hsome : ∃ v s, apOk o2 (fr.put o1.dst v) ∧ vstepD P Z o2.op (fr.put o1.dst v) s (fun w s' => K ((fr.put o1.dst v).put o2.dst w) s') := by
            cases hc1 : o1.op.cls with
            | N => obtain ⟨v, _, hv⟩ := (val_iff (.inl hc1)).1 k1; exact ⟨_, _, hv⟩
            | L => obtain ⟨v, _, hv⟩ := (val_iff (.inr hc1)).1 k1; exact ⟨_, _, hv⟩
            | B => rw [clsOk, hc1] at hcls; cases hc2 : o2.op.cls <;> rw [hc2] at hcls <;> simp at hcls
            | X => rw [clsOk, hc1] at hcls; cases hc2 : o2.op.cls <;> rw [hc2] at hcls <;> simp at hcls
            | S =>
              cases ho : o1.op <;> rw [ho] at hc1 <;> simp only [VO.cls, reduceCtorEq] at hc1
              rw [ho] at k1; simp only [vstepD, vstep, appA] at k1
              split at k1
              · split at k1
                · exact ⟨_, _, k1.2.2.2.2⟩
                · exact k1.elim
              · exact k1.elim
            | A =>
              cases ho : o1.op <;> rw [ho] at hc1 <;> simp only [VO.cls, reduceCtorEq] at hc1
              rw [ho] at k1; simp only [vstepD, vstep, appA] at k1
              split at k1
              · exact ⟨_, _, k1.2.2.2.2.2 .full trivial⟩
              · exact k1.elim
          obtain ⟨v, s, h1, _⟩ := hsome
          exact (apOk_put fr v D1).1 h1
        refine ⟨kap2, ?_⟩
        have k1 : vstepD P Z o1.op fr st (fun v st' => vstepD P Z o2.op fr st' (fun w s => K ((fr.put o2.dst w).put o1.dst v) s)) :=
          vstepD_mono k1 (fun v s hv => by
            have hv := hv.2
            rw [vstepD_congr (a2 _ _)] at hv
            exact vstepD_mono hv (fun w s' hw => by rw [← pp]; exact hw))
        suffices hs : vstepD P Z o2.op fr st (fun w st' => vstepD P Z o1.op fr st' (fun v s => K ((fr.put o2.dst w).put o1.dst v) s)) from
          vstepD_mono hs (fun w s hw => outer w s hw)
        by_cases hv2 : o2.op.cls = .N ∨ o2.op.cls = .L
        · by_cases hv1 : o1.op.cls = .N ∨ o1.op.cls = .L
          · obtain ⟨v, r1, k⟩ := (val_iff hv1).1 k1
            obtain ⟨w, r2, k⟩ := (val_iff hv2).1 k
            exact (val_iff hv2).2 ⟨w, r2, (val_iff hv1).2 ⟨v, r1, k⟩⟩
          · cases hc1 : o1.op.cls with
            | N => exact absurd (.inl hc1) hv1
            | L => exact absurd (.inr hc1) hv1
            | B => rw [clsOk, hc1] at hcls; cases hc2 : o2.op.cls <;> rw [hc2] at hcls <;> simp at hcls
            | X => rw [clsOk, hc1] at hcls; cases hc2 : o2.op.cls <;> rw [hc2] at hcls <;> simp at hcls
            | S =>
              have hc2 : o2.op.cls = .N := by rw [clsOk, hc1] at hcls; cases hc2 : o2.op.cls <;> rw [hc2] at hcls <;> simp at hcls <;> rfl
              cases ho : o1.op <;> rw [ho] at hc1 <;> simp only [VO.cls, reduceCtorEq] at hc1
              rw [ho] at k1
              simp only [vstepD, vstep, appA] at k1
              split at k1
              · rename_i b off hx
                split at k1
                · rename_i cs hcs
                  obtain ⟨q1, q2, q3, q4, k⟩ := k1
                  have k := (val_iff hv2).1 k
                  obtain ⟨w, r2, k⟩ := k
                  refine (val_iff hv2).2 ⟨w, (RO_state hc2 (mOf_ins (fun p => by rw [hcs]; simp))).1 r2, ?_⟩
                  simp only [vstepD, vstep, hx, hcs]
                  exact ⟨q1, q2, q3, q4, k⟩
                · exact k1.elim
              · exact k1.elim
            | A =>
              have hnc : o2.op.isCall = false := by
                rw [clsOk, hc1] at hcls; cases hc2 : o2.op.cls <;> rw [hc2] at hcls <;> simp at hcls <;> exact hcls
              cases ho : o1.op <;> rw [ho] at hc1 <;> simp only [VO.cls, reduceCtorEq] at hc1
              rw [ho] at k1
              simp only [vstepD, vstep, appA] at k1
              split at k1
              · rename_i xs tk ys t2 hx hy
                obtain ⟨q1, q2, q3, q4, q5, k⟩ := k1
                obtain ⟨w, r2, _⟩ := (val_iff hv2).1 (k .full trivial)
                have r2' := (RO_tok hv2 (objs_tok st tk .full)).1 r2
                refine (val_iff hv2).2 ⟨w, r2', ?_⟩
                simp only [vstepD, vstep, appA, hx, hy]
                refine ⟨q1, q2, q3, q4, q5, fun t' ht => ?_⟩
                obtain ⟨w', r3, k'⟩ := (val_iff hv2).1 (k t' ht)
                have := RO_fun hv2 hnc ((RO_tok hv2 (objs_tok st tk t')).1 r3) r2'
                subst this
                exact k'
              · exact k1.elim
        · -- the second acts: the first yields only
          have hv1 : o1.op.cls = .N ∨ o1.op.cls = .L := by
            cases hc1 : o1.op.cls with
            | N => exact .inl rfl
            | L => exact .inr rfl
            | B => rw [clsOk, hc1] at hcls; cases hc2 : o2.op.cls <;> rw [hc2] at hcls <;> simp at hcls
            | X => rw [clsOk, hc1] at hcls; cases hc2 : o2.op.cls <;> rw [hc2] at hcls <;> simp at hcls
            | S => rw [clsOk, hc1] at hcls; cases hc2 : o2.op.cls <;> rw [hc2] at hcls hv2 <;> simp at hcls hv2
            | A => rw [clsOk, hc1] at hcls; cases hc2 : o2.op.cls <;> rw [hc2] at hcls hv2 <;> simp at hcls hv2
          obtain ⟨v, r1, k⟩ := (val_iff hv1).1 k1
          have hnx : o2.op.cls ≠ .X := fun hx => by
            rcases hv1 with h | h <;> rw [clsOk, h, hx] at hcls <;> simp at hcls
          cases ho : o2.op <;> rw [ho] at hv2 hnx <;> simp only [VO.cls, reduceCtorEq, or_false, or_true, or_self, not_true_eq_false, ne_eq, not_false_eq_true] at hv2 hnx
          case box x =>
            rw [ho] at k
            simp only [vstepD, vstep, appA] at k ⊢
            exact ⟨k.1, fun b hb => (val_iff hv1).2 ⟨v, RO_ins hv1 hb r1, k.2 b hb⟩⟩
          case alloc =>
            rw [ho] at k
            simp only [vstepD, vstep, appA] at k ⊢
            exact fun b hb => (val_iff hv1).2 ⟨v, RO_ins hv1 hb r1, k b hb⟩
          case store =>
            rw [ho] at k
            simp only [vstepD, vstep, appA] at k ⊢
            split at k
            · rename_i b' off' hx
              split at k
              · rename_i cs' hcs'
                obtain ⟨q1, q2, q3, q4, k⟩ := k
                refine ⟨q1, q2, q3, q4, (val_iff hv1).2 ⟨v, ?_, k⟩⟩
                rcases hv1 with hc1 | hc1
                · exact (RO_state hc1 (mOf_ins (fun p => by rw [hcs']; simp)).symm).1 r1
                · rw [clsOk, hc1, ho] at hcls
                  simp only [VO.cls] at hcls
                  cases ho1 : o1.op <;> rw [ho1] at hc1 <;> simp only [VO.cls, reduceCtorEq] at hc1
                  rename_i m ag x
                  rw [ho1] at hcls
                  cases x with
                  | c a => simp [loadAp] at hcls
                  | t i =>
                    simp only [loadAp] at hcls
                    have hi : i ∈ o2.ap.map (·.2) := by simpa using hcls
                    rw [ho1] at r1
                    simp only [RO, vval, vload, VE.ev] at r1 ⊢
                    unfold apOk at kap2
                    rw [ho] at kap2
                    split at r1
                    · rename_i b off hb
                      have hne : b ≠ b' := kap2 i hi b off b' off' hb hx
                      simp only [St.ins, if_neg hne]
                      exact r1
                    · exact r1
                    · cases r1
              · exact k.elim
            · exact k.elim
          case app =>
            rw [ho] at k
            simp only [vstepD, appA] at k ⊢
            split at k
            · obtain ⟨q1, q2, q3, q4, q5, k⟩ := k
              exact ⟨q1, q2, q3, q4, q5, fun t' ht => (val_iff hv1).2 ⟨v, (RO_tok hv1 (objs_tok st _ t')).2 r1, k t' ht⟩⟩
            · exact k.elim
end Go.Proofs.YtglekfgoadehbaaDoor.V
end
section
set_option linter.unusedSimpArgs false
set_option linter.unusedVariables false
/- Any order that keeps what must be kept comes to the text's own. -/
namespace Go.Proofs.YtglekfgoadehbaaDoor.V
open Go Go.RowKit
variable {P : Program} {Z : Im}
def VOp.upto (o : VOp) (i : Nat) : VOp := { o with ap := o.ap.filter (fun p => decide (p.1 < i)) }
theorem apOk_less {o : VOp} {ap : List (Nat × Nat)} (h : ∀ p ∈ ap, p ∈ o.ap) {fr : Fr} (k : apOk o fr) : apOk { o with ap := ap } fr := by
  unfold apOk at k ⊢
  cases ho : o.op <;> try trivial
  rw [ho] at k
  intro i hi
  obtain ⟨p, hp, rfl⟩ := List.mem_map.1 hi
  exact k p.2 (List.mem_map.2 ⟨p, h p hp, rfl⟩)
theorem vopD_less {o : VOp} {ap : List (Nat × Nat)} (h : ∀ p ∈ ap, p ∈ o.ap) {K : Fr → St → Prop} {fr : Fr} {st : St} (k : vopD P Z o K fr st) : vopD P Z { o with ap := ap } K fr st := by
  unfold vopD at k ⊢
  simp only
  cases hg : gd o.guard fr with
  | none => rw [hg] at k; exact k
  | some b => rw [hg] at k; exact ⟨fun e => ⟨apOk_less h (k.1 e).1, (k.1 e).2⟩, k.2⟩
theorem bubble {cl : List VOp} {x : VOp} {K : Fr → St → Prop} (l2 : List VOp) : ∀ (l1 : List Nat) (m : Nat) {fr : Fr} {st : St}, (∀ i ∈ l1, i < cl.length) → l1.Pairwise (· < ·) → (∀ i ∈ l1, m ≤ i) → x.bar = false → (∀ i a, i ∈ l1 → cl[i]? = some a → indep a (x.upto (i + 1)) = true ∧ a.bar = false) →
    vopsD P Z (l1.filterMap (cl[·]?) ++ x :: l2) K fr st → vopD P Z (x.upto m) (vopsD P Z (l1.filterMap (cl[·]?) ++ l2) K) fr st
  | [], m, _, _, _, _, _, hx, _, h => vopD_less (fun p hp => (List.mem_filter.1 hp).1) (by simpa only [List.filterMap_nil, List.nil_append, vopsD, vopE, hx, Bool.false_eq_true, if_false] using h)
  | i :: l1, m, fr, st, hl, hs, hm, hx, hy, h => by
    obtain ⟨a, ha⟩ : ∃ a, cl[i]? = some a := ⟨_, List.getElem?_eq_getElem (hl i (by simp))⟩
    rw [List.filterMap_cons_some ha] at h ⊢
    have hya := hy i a (by simp) ha
    simp only [List.cons_append, vopsD, vopE, hya.2, Bool.false_eq_true, if_false] at h ⊢
    have hs' := List.pairwise_cons.1 hs
    have h1 := vopD_mono h (fun f s hh => bubble l2 l1 (i + 1) (fun j hj => hl j (by simp [hj])) hs'.2 (fun j hj => hs'.1 j hj) hx (fun j b hj => hy j b (by simp [hj])) hh)
    have h2 := swap hya.1 h1
    refine vopD_less (o := x.upto (i + 1)) (fun p hp => ?_) h2
    obtain ⟨q1, q2⟩ := List.mem_filter.1 hp
    have := hm i (by simp)
    exact List.mem_filter.2 ⟨q1, by simp at q2 ⊢; omega⟩
theorem vop_ap {K : Fr → St → Prop} {o o' : VOp} (h1 : o'.dst = o.dst) (h2 : o'.op = o.op) (h3 : o'.guard = o.guard) : vop P Z o' K = vop P Z o K := by
  funext fr st
  unfold vop
  rw [h1, h2, h3]
theorem perm_ok {cl : List VOp} {K : Fr → St → Prop} : ∀ (l T : List Nat) {fr : Fr} {st : St}, T.Pairwise (· < ·) → (∀ i, i ∈ l ↔ i ∈ T) → l.Nodup → (∀ i ∈ T, i < cl.length) →
    (∀ i j a b, i ∈ T → j ∈ T → i < j → l.idxOf j < l.idxOf i → cl[i]? = some a → cl[j]? = some b → indep a (b.upto (i + 1)) = true ∧ a.bar = false ∧ b.bar = false) → vopsD P Z (T.filterMap (cl[·]?)) K fr st → vops P Z (l.filterMap (cl[·]?)) K fr st
  | [], T, fr, st, _, hm, _, _, _, h => by
    have : T = [] := List.eq_nil_iff_forall_not_mem.2 (fun i hi => by simpa using (hm i).2 hi)
    subst this; exact h
  | x :: l, T, fr, st, hs, hm, hn, hlt, hi, h => by
    have hx : x ∈ T := (hm x).1 (by simp)
    obtain ⟨T1, T2, rfl⟩ := List.append_of_mem hx
    have hxl := hlt x hx
    obtain ⟨b, hb⟩ : ∃ b, cl[x]? = some b := ⟨_, List.getElem?_eq_getElem hxl⟩
    have hs1 := List.pairwise_append.1 hs
    have hnx := List.nodup_cons.1 hn
    have hT1 : ∀ y ∈ T1, y < x := fun y hy => hs1.2.2 y hy x (by simp)
    have hT2 : ∀ y ∈ T2, x < y := fun y hy => (List.pairwise_cons.1 hs1.2.1).1 y hy
    rw [List.filterMap_append, List.filterMap_cons_some hb] at h
    have hq : ∀ y a, y ∈ T1 → cl[y]? = some a → indep a (b.upto (y + 1)) = true ∧ a.bar = false ∧ b.bar = false := fun y a hy hya => by
      refine hi y x a b (by simp [hy]) (by simp) (hT1 y hy) ?_ hya hb
      have hne : y ≠ x := by have := hT1 y hy; omega
      have hne' : (x == y) = false := by simpa using Ne.symm hne
      rw [List.idxOf_cons, List.idxOf_cons]
      simp [hne']
    have h' : vop P Z b (vopsD P Z ((T1 ++ T2).filterMap (cl[·]?)) K) fr st := by
      cases hbar : b.bar with
      | false =>
        have h' := bubble (T2.filterMap (cl[·]?)) T1 0 (fun i hi' => hlt i (by simp [hi'])) hs1.1 (fun _ _ => Nat.zero_le _) hbar (fun y a hy hya => ⟨(hq y a hy hya).1, (hq y a hy hya).2.1⟩) h
        rw [← List.filterMap_append] at h'
        rw [← vop_ap (o' := b.upto 0) (o := b) rfl rfl rfl]
        exact vop_of_D h'
      | true =>
        have e : T1 = [] := by
          cases T1 with
          | nil => rfl
          | cons y T1 =>
            exfalso
            have hy : y < cl.length := hlt y (by simp)
            have := (hq y _ (by simp) (List.getElem?_eq_getElem hy)).2.2
            rw [hbar] at this; cases this
        subst e
        simp only [List.filterMap_nil, List.nil_append, vopsD] at h ⊢
        exact vop_of_E h
    rw [List.filterMap_cons_some hb]
    simp only [vops]
    refine vop_mono h' (fun f s hh => perm_ok l (T1 ++ T2) ?_ ?_ hnx.2 ?_ ?_ hh)
    · exact List.pairwise_append.2 ⟨hs1.1, (List.pairwise_cons.1 hs1.2.1).2, fun a ha c hc => hs1.2.2 a ha c (by simp [hc])⟩
    · intro i
      constructor
      · intro hil
        have := (hm i).1 (by simp [hil])
        have hne : i ≠ x := fun e => hnx.1 (e ▸ hil)
        simp at this ⊢
        rcases this with h | h | h
        · exact .inl h
        · exact absurd h hne
        · exact .inr h
      · intro hiT
        have hne : i ≠ x := by
          rcases List.mem_append.1 hiT with h | h
          · have := hT1 i h; omega
          · have := hT2 i h; omega
        have := (hm i).2 (by simp at hiT ⊢; rcases hiT with h | h; exact .inl h; exact .inr (.inr h))
        rcases List.mem_cons.1 this with h | h
        · exact absurd h hne
        · exact h
    · exact fun i hiT => hlt i (by simp at hiT ⊢; rcases hiT with h | h; exact .inl h; exact .inr (.inr h))
    · intro i j a c hiT hjT hij hidx ha hc
      have ne : ∀ k, k ∈ T1 ++ T2 → k ≠ x := fun k hk => by
        rcases List.mem_append.1 hk with h | h
        · have := hT1 k h; omega
        · have := hT2 k h; omega
      have mem : ∀ k, k ∈ T1 ++ T2 → k ∈ T1 ++ x :: T2 := fun k hk => by simp at hk ⊢; rcases hk with h | h; exact .inl h; exact .inr (.inr h)
      refine hi i j a c (mem i hiT) (mem j hjT) hij ?_ ha hc
      have e1 : (x == i) = false := by simpa using Ne.symm (ne i hiT)
      have e2 : (x == j) = false := by simpa using Ne.symm (ne j hjT)
      rw [List.idxOf_cons, List.idxOf_cons, e1, e2]
      simp; omega
/-! ### What must stand ahead, as bits -/
def maskOf (acc : List Nat) (pre : List Nat) : Nat := pre.foldl (fun s i => s ||| 2 ^ i ||| acc.getD i 0) 0
def masks : List VOp → List Nat → List Nat
  | [], acc => acc
  | v :: r, acc => masks r (acc ++ [maskOf acc v.pre])
theorem foldl_bits (acc : List Nat) (b : Nat) : ∀ (l : List Nat) (s : Nat), (l.foldl (fun s i => s ||| 2 ^ i ||| acc.getD i 0) s).testBit b = true → s.testBit b = true ∨ ∃ i ∈ l, b = i ∨ (acc.getD i 0).testBit b = true
  | [], s, h => .inl h
  | i :: l, s, h => by
    rw [List.foldl_cons] at h
    rcases foldl_bits acc b l _ h with h | ⟨j, hj, h⟩
    · rw [Nat.testBit_or, Nat.testBit_or, Bool.or_eq_true, Bool.or_eq_true, Nat.testBit_two_pow] at h
      rcases h with (h | h) | h
      · exact .inl h
      · exact .inr ⟨i, by simp, .inl (by simpa using Eq.symm (of_decide_eq_true h))⟩
      · exact .inr ⟨i, by simp, .inr h⟩
    · exact .inr ⟨j, by simp [hj], h⟩
theorem masks_ok {Bef : Nat → Nat → Prop} (htr : ∀ i j k, Bef i j → Bef j k → Bef i k) : ∀ (r : List VOp) (acc : List Nat), (∀ k i, k < acc.length → (acc.getD k 0).testBit i = true → Bef i k) →
    (∀ k v i, r[k]? = some v → i ∈ v.pre → Bef i (acc.length + k)) → ∀ k i, k < acc.length + r.length → ((masks r acc).getD k 0).testBit i = true → Bef i k
  | [], acc, h, _, k, i, hk, hb => h k i (by simpa using hk) hb
  | v :: r, acc, h, hp, k, i, hk, hb => by
    refine masks_ok htr r (acc ++ [maskOf acc v.pre]) (fun k i hk hb => ?_) (fun k v' i hv hi => ?_) k i (by simp at hk ⊢; omega) hb
    · by_cases hlt : k < acc.length
      · rw [List.getD_eq_getElem?_getD, List.getElem?_append_left hlt, ← List.getD_eq_getElem?_getD] at hb; exact h k i hlt hb
      · have : k = acc.length := by simp at hk; omega
        subst this
        rw [List.getD_eq_getElem?_getD, List.getElem?_append_right (Nat.le_refl _), Nat.sub_self] at hb
        simp only [List.getElem?_cons_zero, Option.getD_some, maskOf] at hb
        rcases foldl_bits acc i v.pre 0 hb with h0 | ⟨j, hj, h0⟩
        · simp at h0
        · have hbj := hp 0 v j rfl hj
          rw [Nat.add_zero] at hbj
          rcases h0 with rfl | h0
          · exact hbj
          · by_cases hjl : j < acc.length
            · exact htr _ _ _ (h j i hjl h0) hbj
            · rw [List.getD_eq_getElem?_getD, List.getElem?_eq_none (by omega)] at h0; simp at h0
    · have := hp (k + 1) v' i (by simpa using hv) hi
      simpa [Nat.add_assoc, Nat.add_comm 1 k] using this
def drawOk (cl : List VOp) : Bool :=
  let m := masks cl []
  (List.range cl.length).all fun j => (List.range j).all fun i => (m.getD j 0).testBit i || (match cl[i]?, cl[j]? with | some a, some b => indep a (b.upto (i + 1)) && (!a.bar && !b.bar) | _, _ => false)
theorem drawOk_ok {cl : List VOp} (h : drawOk cl = true) {l : List Nat} (hpre : ∀ k v i, cl[k]? = some v → i ∈ v.pre → l.idxOf i < l.idxOf k) : ∀ i j a b, i < j → l.idxOf j < l.idxOf i → cl[i]? = some a → cl[j]? = some b → indep a (b.upto (i + 1)) = true ∧ a.bar = false ∧ b.bar = false := by
  intro i j a b hij hidx ha hb
  have hj := (List.getElem?_eq_some_iff.1 hb).1
  simp only [drawOk, List.all_eq_true, List.mem_range] at h
  have := h j hj i hij
  rw [ha, hb] at this
  rw [Bool.or_eq_true] at this
  rcases this with h1 | h1
  · have := masks_ok (Bef := fun i j => l.idxOf i < l.idxOf j) (fun _ _ _ => Nat.lt_trans) cl [] (by simp) (fun k v i hv hi => by simpa using hpre k v i hv hi) j i (by simpa using hj) h1
    omega
  · have h2 : (indep a (b.upto (i + 1)) && (!a.bar && !b.bar)) = true := h1
    simpa only [Bool.and_eq_true, Bool.not_eq_true'] using h2
/-! ### The orders that the machine draws -/
def Closed (md : Region.Mode) (ops : Array Oper) : Prop := ∀ L : Nat → Prop, (∀ (i : Nat) o, ops[i]? = some o → (∀ e ∈ o.after, Region.binds md e = true → L e.on) → L i) → ∀ i, i < ops.size → L i
def predMask (md : Region.Mode) (o : Oper) : Nat := o.after.toList.foldl (fun s e => if Region.binds md e then s ||| 2 ^ e.on else s) 0
def acyc (pm : List Nat) (n : Nat) : Nat → Nat → Bool
  | 0, seen => (List.range n).all (seen.testBit ·)
  | f + 1, seen => match (List.range n).find? (fun i => !seen.testBit i && (pm.getD i 0 &&& seen) == pm.getD i 0) with
    | some i => acyc pm n f (seen ||| 2 ^ i)
    | none => (List.range n).all (seen.testBit ·)
theorem predMask_bits (md : Region.Mode) : ∀ (l : List Edge) (s : Nat) (b : Nat), (s.testBit b = true ∨ ∃ e ∈ l, Region.binds md e = true ∧ e.on = b) → (l.foldl (fun s e => if Region.binds md e then s ||| 2 ^ e.on else s) s).testBit b = true
  | [], s, b, h => by simpa using h
  | e :: l, s, b, h => by
    rw [List.foldl_cons]
    refine predMask_bits md l _ b ?_
    rcases h with h | ⟨e', he, hb, rfl⟩
    · left; split
      · rw [Nat.testBit_or, h, Bool.true_or]
      · exact h
    · rcases List.mem_cons.1 he with rfl | he
      · left; rw [if_pos hb, Nat.testBit_or, Nat.testBit_two_pow]; simp
      · exact .inr ⟨e', he, hb, rfl⟩
theorem acyc_ok {md : Region.Mode} {ops : Array Oper} {L : Nat → Prop} (hL : ∀ (i : Nat) o, ops[i]? = some o → (∀ e ∈ o.after, Region.binds md e = true → L e.on) → L i) :
    ∀ (f seen : Nat), (∀ i, seen.testBit i = true → L i) → acyc (ops.toList.map (predMask md)) ops.size f seen = true → ∀ i, i < ops.size → L i
  | 0, seen, hs, h, i, hi => hs i (by simp only [acyc, List.all_eq_true, List.mem_range] at h; exact h i hi)
  | f + 1, seen, hs, h, i, hi => by
    simp only [acyc] at h
    split at h
    · rename_i j hj
      have hj2 := List.find?_some hj
      have hjm := List.mem_of_find?_eq_some hj
      have hlt := List.mem_range.1 hjm
      simp only [Bool.and_eq_true, beq_iff_eq] at hj2
      refine acyc_ok hL f _ (fun k hk => ?_) h i hi
      rw [Nat.testBit_or, Bool.or_eq_true] at hk
      rcases hk with hk | hk
      · exact hs k hk
      · rw [Nat.testBit_two_pow] at hk
        have : j = k := of_decide_eq_true hk
        subst this
        refine hL j _ (Array.getElem?_eq_getElem hlt) (fun e he hb => hs _ ?_)
        have hm : (predMask md ops[j]).testBit e.on = true := predMask_bits md _ 0 _ (.inr ⟨e, by simpa using he, hb, rfl⟩)
        have hg : (ops.toList.map (predMask md)).getD j 0 = predMask md ops[j] := by
          rw [List.getD_eq_getElem?_getD, List.getElem?_map]; simp [hlt]
        rw [hg] at hj2
        rw [← hj2.2, Nat.testBit_and, Bool.and_eq_true] at hm
        exact hm.2
    · exact hs i (by simp only [List.all_eq_true, List.mem_range] at h; exact h i hi)
def acycOk (md : Region.Mode) (ops : Array Oper) : Bool := acyc (ops.toList.map (predMask md)) ops.size ops.size 0
theorem closed_of {md : Region.Mode} {ops : Array Oper} (h : acycOk md ops = true) : Closed md ops := fun _ hL => acyc_ok hL ops.size 0 (by simp) h
theorem lin_go (md : Region.Mode) (ops : Array Oper) (hpre : Closed md ops) (hon : ∀ (j : Nat) o, ops[j]? = some o → ∀ e ∈ o.after, e.on < ops.size) : ∀ (fuel t : Nat) (listed : Array Bool), listed.size = ops.size → listed.toList.count false ≤ fuel →
    (∀ i ∈ Region.linearise.go md ops fuel t listed [], i < ops.size ∧ listed.getD i true = false) ∧ (Region.linearise.go md ops fuel t listed []).Nodup ∧
    (∀ i, i < ops.size → listed.getD i true = false → i ∈ Region.linearise.go md ops fuel t listed []) ∧
    (∀ l1 j l2 o, Region.linearise.go md ops fuel t listed [] = l1 ++ j :: l2 → ops[j]? = some o → ∀ e ∈ o.after, Region.binds md e = true → listed.getD e.on false = true ∨ e.on ∈ l1) := by
  intro fuel
  induction fuel with
  | zero =>
    intro t listed hs hc
    have hall : ∀ i, i < ops.size → listed.getD i true = true := fun i hi => by
      have hlt : i < listed.size := by omega
      rw [Array.getD_eq_getD_getElem?, Array.getElem?_eq_getElem hlt]
      simp only [Option.getD_some]
      cases hv : listed[i] with
      | true => rfl
      | false =>
        have : false ∈ listed.toList := by rw [← hv]; exact Array.mem_toList_iff.2 (Array.getElem_mem hlt)
        have := List.count_pos_iff.2 this
        omega
    simp only [Region.linearise.go, List.reverse_nil]
    exact ⟨by simp, by simp, (fun i hi h => by rw [hall i hi] at h; cases h), (fun l1 j l2 o h => by simp at h)⟩
  | succ fuel ih =>
    intro t listed hs hc
    simp only [Region.linearise.go]
    change (∀ i ∈ (match (Region.ready md ops listed)[t % (Region.ready md ops listed).length]? with
      | some i => Region.linearise.go md ops fuel (t / (Region.ready md ops listed).length) (listed.setIfInBounds i true) [i]
      | none => [].reverse), _) ∧ (match (Region.ready md ops listed)[t % (Region.ready md ops listed).length]? with
      | some i => Region.linearise.go md ops fuel (t / (Region.ready md ops listed).length) (listed.setIfInBounds i true) [i]
      | none => [].reverse).Nodup ∧ (∀ i, i < ops.size → listed.getD i true = false → i ∈ (match (Region.ready md ops listed)[t % (Region.ready md ops listed).length]? with
      | some i => Region.linearise.go md ops fuel (t / (Region.ready md ops listed).length) (listed.setIfInBounds i true) [i]
      | none => [].reverse)) ∧ (∀ l1 j l2 o, (match (Region.ready md ops listed)[t % (Region.ready md ops listed).length]? with
      | some i => Region.linearise.go md ops fuel (t / (Region.ready md ops listed).length) (listed.setIfInBounds i true) [i]
      | none => [].reverse) = l1 ++ j :: l2 → _)
    cases hi : (Region.ready md ops listed)[t % (Region.ready md ops listed).length]? with
    | none =>
      have hnil : Region.ready md ops listed = [] := by
        cases hr : Region.ready md ops listed with
        | nil => rfl
        | cons x xs =>
          rw [hr] at hi
          have hlt : t % (x :: xs).length < (x :: xs).length := Nat.mod_lt _ (by simp)
          rw [List.getElem?_eq_getElem hlt] at hi; cases hi
      have hall : ∀ i, i < ops.size → listed.getD i true = true := by
        refine hpre (fun i => listed.getD i true = true) (fun i o ho hL => ?_)
        have hlt := (Array.getElem?_eq_some_iff.1 ho).1
        cases hv : listed.getD i true with
        | true => rfl
        | false =>
          have : i ∈ Region.ready md ops listed := by
            unfold Region.ready
            refine List.mem_filter.2 ⟨List.mem_range.2 hlt, ?_⟩
            rw [hv]
            simp only [Bool.not_false, Bool.true_and, ho, Option.map_some, Option.getD_some]
            refine Array.all_eq_true_iff_forall_mem.2 (fun e he => ?_)
            cases hb : Region.binds md e with
            | false => rfl
            | true =>
              have h1 := hL e he hb
              have h2 := hon i o ho e he
              have hg : listed.getD e.on false = true := by
                rw [Array.getD_eq_getD_getElem?] at h1 ⊢
                have hl : e.on < listed.size := by omega
                rw [Array.getElem?_eq_getElem hl] at h1 ⊢
                exact h1
              rw [hg]; rfl
          rw [hnil] at this; cases this
      simp only [List.reverse_nil]
      exact ⟨by simp, by simp, (fun i hi h => by rw [hall i hi] at h; cases h), (fun l1 j l2 o h => by simp at h)⟩
    | some i =>
      have hmem := List.mem_of_getElem? hi
      unfold Region.ready at hmem
      obtain ⟨hlt, hrd⟩ := List.mem_filter.1 hmem
      have hlt := List.mem_range.1 hlt
      simp only [Bool.and_eq_true, Bool.not_eq_true'] at hrd
      obtain ⟨hfree, hafter⟩ := hrd
      rw [Array.getElem?_eq_getElem hlt] at hafter
      simp only [Option.map_some, Option.getD_some] at hafter
      have hil : i < listed.size := by omega
      have hli : listed[i] = false := by
        rw [Array.getD_eq_getD_getElem?, Array.getElem?_eq_getElem hil] at hfree; exact hfree
      have hcount : (listed.setIfInBounds i true).toList.count false ≤ fuel := by
        have hm : false ∈ listed.toList := by rw [← hli]; exact Array.mem_toList_iff.2 (Array.getElem_mem hil)
        have := List.count_pos_iff.2 hm
        rw [Array.toList_setIfInBounds, List.count_set (by simpa using hil)]
        have e1 : listed.toList[i]'(by simpa using hil) = false := by simpa using hli
        simp only [e1, beq_self_eq_true, if_true]
        simp only [show ((true : Bool) == false) = false from rfl, Bool.false_eq_true, if_false]
        omega
      obtain ⟨q1, q2, q3, q4⟩ := ih (t / (Region.ready md ops listed).length) (listed.setIfInBounds i true) (by simpa using hs) hcount
      have hget : ∀ (k : Nat) (d : Bool), (listed.setIfInBounds i true).getD k d = if k = i then true else listed.getD k d := fun k d => by
        rw [Array.getD_eq_getD_getElem?, Array.getElem?_setIfInBounds]
        by_cases hk : i = k
        · subst hk; simp [hil]
        · simp [hk, Ne.symm hk, Array.getD_eq_getD_getElem?]
      simp only []
      rw [linearise_go_acc, List.reverse_singleton, List.singleton_append]
      refine ⟨fun k hk => ?_, ?_, fun k hk hf => ?_, fun l1 j l2 o hl ho e he hb => ?_⟩
      · rcases List.mem_cons.1 hk with rfl | hk
        · exact ⟨hlt, hfree⟩
        · have := q1 k hk
          rw [hget] at this
          split at this
          · exact absurd this.2 (by simp)
          · exact this
      · refine List.nodup_cons.2 ⟨fun hm => ?_, q2⟩
        have := (q1 i hm).2
        rw [hget, if_pos rfl] at this; cases this
      · by_cases hki : k = i
        · subst hki; simp
        · exact List.mem_cons_of_mem _ (q3 k hk (by rw [hget, if_neg hki]; exact hf))
      · cases l1 with
        | nil =>
          simp only [List.nil_append, List.cons.injEq] at hl
          obtain ⟨rfl, _⟩ := hl
          rw [Array.getElem?_eq_getElem hlt] at ho
          cases ho
          have := Array.all_eq_true_iff_forall_mem.1 hafter e he
          rw [hb] at this
          exact .inl (by simpa using this)
        | cons y l1 =>
          simp only [List.cons_append, List.cons.injEq] at hl
          obtain ⟨rfl, hl⟩ := hl
          rcases q4 l1 j l2 o hl ho e he hb with h | h
          · rw [hget] at h
            split at h
            · rename_i hk; rw [hk]; exact .inr (by simp)
            · exact .inl h
          · exact .inr (by simp [h])
theorem lin_ok (md : Region.Mode) (ops : Array Oper) (hpre : Closed md ops) (hon : ∀ (j : Nat) o, ops[j]? = some o → ∀ e ∈ o.after, e.on < ops.size) (t : Nat) :
    (∀ i, i ∈ Region.linearise md ops t ↔ i ∈ List.range ops.size) ∧ (Region.linearise md ops t).Nodup ∧ (∀ (j : Nat) o, ops[j]? = some o → ∀ e ∈ o.after, Region.binds md e = true → (Region.linearise md ops t).idxOf e.on < (Region.linearise md ops t).idxOf j) := by
  obtain ⟨q1, q2, q3, q4⟩ := lin_go md ops hpre hon ops.size t (Array.replicate ops.size false) (by simp) (by rw [Array.toList_replicate]; exact Nat.le_trans (List.count_le_length) (by simp))
  have hin : ∀ i, i < ops.size → i ∈ Region.linearise md ops t := fun i hi => q3 i hi (by simp [Array.getD_eq_getD_getElem?, hi])
  refine ⟨fun i => ⟨fun h => List.mem_range.2 (q1 i h).1, fun h => hin i (List.mem_range.1 h)⟩, q2, fun j o ho e he hb => ?_⟩
  have hj := (Array.getElem?_eq_some_iff.1 ho).1
  obtain ⟨l1, l2, hl⟩ := List.append_of_mem (hin j hj)
  rcases q4 l1 j l2 o hl ho e he hb with h | h
  · have : e.on < ops.size := hon j o ho e he
    simp [Array.getD_eq_getD_getElem?, this] at h
  · have hl' : Region.linearise md ops t = l1 ++ j :: l2 := hl
    have hnd : (l1 ++ j :: l2).Nodup := hl ▸ q2
    have hjn : j ∉ l1 := fun hm => (List.nodup_append.1 hnd).2.2 j hm j (by simp) rfl
    rw [hl', List.idxOf_append, List.idxOf_append, if_pos h, if_neg hjn]
    have := List.idxOf_lt_length_of_mem h
    omega
end Go.Proofs.YtglekfgoadehbaaDoor.V
end
section
set_option linter.unusedSimpArgs false
set_option linter.unusedVariables false
/- The program's form, as a form over values with rows taken in; what a walk through it asks. -/
namespace Go.Proofs.YtglekfgoadehbaaDoor.V
open Go Go.RowKit
inductive VCode where
  | skip
  | reg (ops : List VOp)
  | dreg (ops : List VOp)
  | seq (a b : VCode)
  | cond (c : VE) (a b : VCode)
  | block (id : Nat) (b : VCode)
  | loop (b : VCode)
  | exit (id : Nat)
  | ret
  | label (l : Nat)
  | goto (l : Nat)
  | scope (c : VCode) (l : Nat) (rest : VCode)
  | rng (g : VE) (ps : List Nat) (asg body : VCode)
  deriving Inhabited
def afterOk (ops : Array Oper) : Bool := (ops.toList.all fun o => o.after.toList.all fun e => decide (e.on < ops.size)) && acycOk .any ops && acycOk .text ops && acycOk .gc ops
def addAp (vs : List VOp) : List VOp :=
  let m := masks vs []
  vs.zipIdx.map fun (o, j) => match o.op with
    | .store .. => { o with ap := (List.range j).filterMap fun i => if (m.getD j 0).testBit i then none else match vs[i]? with
      | some ⟨_, .load _ _ (.t a), _, _, _⟩ => some (i, a)
      | _ => none }
    | .call .. | .callv .. | .app .. => if ((List.range j).all fun i => (m.getD j 0).testBit i) && ((List.range vs.length).all fun k => k ≤ j || (m.getD k 0).testBit j) then { o with ap := [(0, 0)] } else o
    | _ => o
def vfind : VCode → Nat → Option VCode
  | .seq a b, l => match vfind a l with
    | some rest => some (.seq rest b)
    | none => vfind b l
  | .label l', l => if l' == l then some .skip else none
  | _, _ => none
def vlabel : VCode → Option Nat
  | .seq a b => match vlabel a with | some l => some l | none => vlabel b
  | .label l => some l
  | _ => none
def comp (P : Program) (n : Nat) : Code → Option VCode
  | .skip => some .skip
  | .label l => some (.label l)
  | .goto l => some (.goto l)
  | .scope b => match comp P n b with
    | some vb => match vlabel vb with
      | some l => match vfind vb l with
        | some vr => some (.scope vb l vr)
        | none => none
      | none => none
    | none => none
  | .region _ ops false => (compOps P n ops ops.toList).map .reg
  | .region _ ops true => match compOps P n ops ops.toList with
    | some vs => if drawOk (addAp vs) = true ∧ afterOk ops = true then some (.dreg (addAp vs)) else none
    | none => none
  | .seq a b => match comp P n a, comp P n b with | some a, some b => some (.seq a b) | _, _ => none
  | .cond c a b => match compE c, comp P n a, comp P n b with | some c, some a, some b => some (.cond c a b) | _, _, _ => none
  | .block id b => (comp P n b).map (.block id)
  | .loop b => (comp P n b).map .loop
  | .exit id => some (.exit id)
  | .ret => some .ret
  | .rangeFunc g ps asg body => match compE g, comp P n asg, comp P n body with
    | some g, some a, some b => if ps.toList.all (fun p => decide (p < n)) = true then some (.rng g ps.toList a b) else none
    | _, _, _ => none
  | _ => none
def lobj (r : Loop) (s : LoopState) (p : Option Code) : AObj := .raw (.loop { r with state := s, pending := p })
def dobj : AObj := .raw (.deferred (some []))
def jumpQ (Q : Exit → Fr → St → Prop) : Option Code → Fr → St → Prop
  | none => Q .normal
  | some .ret => Q .ret
  | some (.exit id) => Q (.exit id)
  | some (.goto t) => Q (.goto t)
  | _ => fun _ _ => False
def roundQ (l : Nat) (r : Loop) (K : AV → St → Prop) : Exit → Fr → St → Prop
  | .normal, _, st => st.objs l = some (lobj r .busy none) ∧ K (.bool true) (st.ins l (lobj r .ready none))
  | .ret, _, st => st.objs l = some (lobj r .busy none) ∧ K (.bool false) (st.ins l (lobj r .done (some .ret)))
  | .exit id, _, st => st.objs l = some (lobj r .busy none) ∧ K (.bool false) (st.ins l (lobj r .done (some (.exit id))))
  | .goto t, _, st => st.objs l = some (lobj r .busy none) ∧ K (.bool false) (st.ins l (lobj r .done (some (.goto t))))
  | _, _, _ => False
def argsFr (ps : List Nat) (args : List AV) (fr : Fr) : Fr := { t := (ps.zip args).foldl (fun t (p, v) => fun i => if i = p then v else t i) fr.t, d := [] }
def thenQ (K : Fr → St → Prop) (Q : Exit → Fr → St → Prop) : Exit → Fr → St → Prop
  | .normal, fr, st => K fr st
  | e, fr, st => Q e fr st
def blockQ (id : Nat) (Q : Exit → Fr → St → Prop) : Exit → Fr → St → Prop
  | .exit id', fr, st => if id' = id then Q .normal fr st else Q (.exit id') fr st
  | e, fr, st => Q e fr st
def jumpsQ (l : Nat) (J : Fr → St → Prop) (Q : Exit → Fr → St → Prop) : Exit → Fr → St → Prop
  | .goto l', fr, st => l' = l ∧ J fr st
  | e, fr, st => Q e fr st
def condQ (c : AV) (A B : Prop) : Prop := match c with | .bool t => (t = true → A) ∧ (t = false → B) | _ => False
def vwp (P : Program) : VCode → Im → Option Nat → (Exit → Fr → St → Prop) → Fr → St → Prop
  | .skip, _, _, Q => Q .normal
  | .reg ops, Z, _, Q => vops P Z ops (Q .normal)
  | .dreg ops, Z, _, Q => vopsD P Z ops (Q .normal)
  | .seq a b, Z, ro, Q => vwp P a Z ro (thenQ (vwp P b Z ro Q) Q)
  | .cond c a b, Z, ro, Q => fun fr st => condQ (c.ev fr) (vwp P a Z ro Q fr st) (vwp P b Z ro Q fr st)
  | .block id b, Z, ro, Q => vwp P b Z ro (blockQ id Q)
  | .loop b, Z, ro, Q => fun fr st => ∃ (Inv : Fr → St → Prop) (μ : Fr → St → Nat), Inv fr st ∧
      ∀ fr st, Inv fr st → vwp P b Z ro (thenQ (fun fr' st' => ∃ s, s.le st' ∧ Inv fr' s ∧ μ fr' s < μ fr st) Q) fr st
  | .exit id, _, _, Q => Q (.exit id)
  | .ret, _, _, Q => Q .ret
  | .label _, _, _, Q => Q .normal
  | .goto l, _, _, Q => Q (.goto l)
  | .scope c l rest, Z, ro, Q => fun fr st => ro = none ∧ ∃ (J : Fr → St → Prop) (μ : Fr → St → Nat), vwp P c Z ro (jumpsQ l J Q) fr st ∧
      ∀ fr st, J fr st → vwp P rest Z ro (jumpsQ l (fun fr' st' => ∃ s, s.le st' ∧ J fr' s ∧ μ fr' s < μ fr st) Q) fr st
  | .rng g ps asg body, Z, ro, Q => fun fr st =>
    match g.ev fr with
    | .clo gf fs cs =>
      match ro with
      | none => ∀ (Y : Im) (l D : Nat) (r : Loop), Z.le Y → st.objs l = none → st.objs D = none → l ≠ D →
          (∀ args st' K, args.length = ps.length → st'.objs l = some (lobj r .ready none) →
            vwp P asg Y (some l) (fun e fr1 st1 => e = .normal ∧ st1.objs l = some (lobj r .ready none) ∧ vwp P body Y (some l) (roundQ l r K) fr1 (st1.ins l (lobj r .busy none))) (argsFr ps args fr) st' → VYield P Y l args st' K) →
          VCalls P Y gf (fs ++ [.yld l] ++ cs) ((st.ins D dobj).ins l (lobj r .ready none))
            (fun _ s2 => ∃ s p, s ≠ .busy ∧ s2.objs l = some (lobj r s p) ∧ jumpQ Q p { fr with d := D :: fr.d } (s2.ins l (lobj r .exhausted p)))
      | some l0 => (∃ r0 s0 p0, st.objs l0 = some (lobj r0 s0 p0)) ∧ ∀ (Y : Im) (l : Nat) (r : Loop), Z.le Y → st.objs l = none →
          (∀ args st' K, args.length = ps.length → st'.objs l = some (lobj r .ready none) →
            vwp P asg Y (some l) (fun e fr1 st1 => e = .normal ∧ st1.objs l = some (lobj r .ready none) ∧ vwp P body Y (some l) (roundQ l r K) fr1 (st1.ins l (lobj r .busy none))) (argsFr ps args fr) st' → VYield P Y l args st' K) →
          VCalls P Y gf (fs ++ [.yld l] ++ cs) (st.ins l (lobj r .ready none))
            (fun _ s2 => ∃ s p, s ≠ .busy ∧ s2.objs l = some (lobj r s p) ∧ jumpQ Q p fr (s2.ins l (lobj r .exhausted p)))
    | _ => False
variable {P : Program}
section
variable {B : Base} {I : Im} {st : St} {W : World} {fr : Fr} {a : Act} {n : Nat}
def Lift (B : Base) (I : Im) (n : Nat) (Q : Exit → Fr → St → Prop) (e : Exit) (a' : Act) (W' : World) : Prop :=
  ∃ J fr' st', I.le J ∧ Rel B J st' W' ∧ FrRep J n fr' a' ∧ Q e fr' st'
theorem Lift.of (h : Rel B I st W) (hf : FrRep I n fr a) {Q : Exit → Fr → St → Prop} {e : Exit} (hq : Q e fr st) : Lift B I n Q e a W := ⟨I, fr, st, Im.le.refl _, h, hf, hq⟩
theorem Lift.mono {J : Im} (hle : I.le J) {Q : Exit → Fr → St → Prop} {e : Exit} {a' : Act} {W' : World} (h : Lift B J n Q e a' W') : Lift B I n Q e a' W' := by
  obtain ⟨J', fr', st', h1, h2, h3, h4⟩ := h; exact ⟨J', fr', st', hle.trans h1, h2, h3, h4⟩
theorem ops_region {Z : Im} {ro : Option Nat} {ops : Array Oper} {vs : List VOp} (hc : compOps P n ops ops.toList = some vs) {Q : Exit → Fr → St → Prop} (hz : Z.le I) (l : List Nat) (hl : ∀ i ∈ l, i < ops.size) (hv : vops P Z (l.filterMap (vs[·]?)) (Q .normal) fr st)
    (h : Rel B I st W) (hf : FrRep I n fr a) : wpOpsIn (FR ro) 0 P ops (Lift B I n Q) l a W := by
  obtain ⟨hlen, hfit⟩ := compOps_ok hc
  refine vops_ok (cl := vs) (fun i o ho => ?_) l I fr st a W hl hz hv h hf (fun J fr' st' a' W' hle hr hf' hk => ⟨J, fr', st', hle, hr, hf', hk⟩)
  have hi := (Array.getElem?_eq_some_iff.1 ho).1
  have hlt : i < vs.length := by rw [hlen]; simpa using hi
  exact ⟨vs[i], List.getElem?_eq_getElem hlt, hfit i o _ (by simpa using ho) (List.getElem?_eq_getElem hlt)⟩
theorem filterMap_range (vs : List VOp) : (List.range vs.length).filterMap (vs[·]?) = vs := by
  apply List.ext_getElem?
  intro i
  by_cases hi : i < vs.length
  · have : ∀ (k : Nat), k ≤ vs.length → (List.range k).filterMap (vs[·]?) = vs.take k := by
      intro k
      induction k with
      | zero => simp
      | succ k ih =>
        intro hk
        rw [List.range_succ, List.filterMap_append, ih (by omega), List.take_add_one]
        have : k < vs.length := by omega
        simp [this]
    rw [this _ (Nat.le_refl _), List.take_length]
  · have : ∀ (k : Nat), k ≤ vs.length → (List.range k).filterMap (vs[·]?) = vs.take k := by
      intro k
      induction k with
      | zero => simp
      | succ k ih =>
        intro hk
        rw [List.range_succ, List.filterMap_append, ih (by omega), List.take_add_one]
        have : k < vs.length := by omega
        simp [this]
    rw [this _ (Nat.le_refl _), List.take_length]
theorem addAp_length (vs : List VOp) : (addAp vs).length = vs.length := by simp [addAp]
theorem addAp_get (vs : List VOp) (i : Nat) (v : VOp) (h : vs[i]? = some v) : ∃ v', (addAp vs)[i]? = some v' ∧ v'.dst = v.dst ∧ v'.op = v.op ∧ v'.guard = v.guard ∧ v'.pre = v.pre := by
  simp only [addAp, List.getElem?_map, List.getElem?_zipIdx, h, Option.map_some]
  refine ⟨_, rfl, ?_⟩
  repeat' split
  all_goals exact ⟨rfl, rfl, rfl, rfl⟩
theorem vops_addAp {Z : Im} {K : Fr → St → Prop} (vs : List VOp) : ∀ (l : List Nat), (∀ i ∈ l, i < vs.length) → vops P Z (l.filterMap ((addAp vs)[·]?)) K = vops P Z (l.filterMap (vs[·]?)) K
  | [], _ => rfl
  | i :: l, hl => by
    have hi := hl i (by simp)
    obtain ⟨v', h1, h2, h3, h4, _⟩ := addAp_get vs i _ (List.getElem?_eq_getElem hi)
    rw [List.filterMap_cons_some h1, List.filterMap_cons_some (List.getElem?_eq_getElem hi)]
    simp only [vops]
    rw [vops_addAp vs l (fun j hj => hl j (by simp [hj])), vop_ap h2 h3 h4]
theorem draw_region {Z : Im} {ro : Option Nat} {id : Nat} {ops : Array Oper} {vs : List VOp} (hc : compOps P n ops ops.toList = some vs) (hd : drawOk (addAp vs) = true) (ha : afterOk ops = true) {Q : Exit → Fr → St → Prop} (hz : Z.le I) (hv : vopsD P Z (addAp vs) (Q .normal) fr st)
    (h : Rel B I st W) (hf : FrRep I n fr a) : (Code.region id ops true).wpIn (FR ro) 0 P (Lift B I n Q) a W := by
  obtain ⟨hlen, hfit⟩ := compOps_ok hc
  have hls : (addAp vs).length = ops.size := by rw [addAp_length, hlen]; simp
  simp only [afterOk, Bool.and_eq_true] at ha
  obtain ⟨⟨⟨ha1, ha2⟩, ha3⟩, ha4⟩ := ha
  have hon : ∀ (j : Nat) o, ops[j]? = some o → ∀ e ∈ o.after, e.on < ops.size := fun j o ho e he => by
    simp only [List.all_eq_true] at ha1
    have := ha1 o (by have := Array.mem_of_getElem? ho; simpa using this) e (by simpa using he)
    simpa using this
  have hcl : ∀ md, Closed md ops := fun md => by cases md; exact closed_of ha3; exact closed_of ha4; exact closed_of ha2
  have hdrew : Rel B I st { W with drawn := W.drawn + 1 } := h.drew
  refine wpIn_region_draw (fun t => ?_)
  have main : ∀ md t, vops P Z ((Region.linearise md ops t).filterMap ((addAp vs)[·]?)) (Q .normal) fr st := fun md t => by
    obtain ⟨h1, h2, h3⟩ := lin_ok md ops (hcl md) hon t
    refine perm_ok _ (List.range ops.size) List.pairwise_lt_range h1 h2 (fun i hi => by have := List.mem_range.1 hi; omega) (fun i j a' b' _ _ hij hidx ha' hb' => ?_) (by rw [← hls, filterMap_range]; exact hv)
    refine drawOk_ok hd (l := Region.linearise md ops t) (fun k v i hk hi => ?_) i j a' b' hij hidx ha' hb'
    have hkl := (List.getElem?_eq_some_iff.1 hk).1
    have hkv : k < vs.length := by rw [← addAp_length]; exact hkl
    obtain ⟨v', e1, _, _, _, e5⟩ := addAp_get vs k _ (List.getElem?_eq_getElem hkv)
    rw [hk] at e1; cases e1
    have hko : ops[k]? = some ops[k] := Array.getElem?_eq_getElem (by omega)
    have hft := hfit k ops[k] _ (by simp) (List.getElem?_eq_getElem hkv)
    rw [e5, hft.pre] at hi
    obtain ⟨e, he, rfl⟩ := List.mem_map.1 hi
    obtain ⟨he1, he2⟩ := List.mem_filter.1 he
    refine h3 k _ hko e (by simpa using he1) ?_
    unfold Region.binds at he2 ⊢
    cases hg : e.ground <;> rw [hg] at he2 <;> simp at he2 ⊢
  have fin : ∀ md t, wpOpsIn (FR ro) 0 P ops (Lift B I n Q) (Region.linearise md ops t) a { W with drawn := W.drawn + 1 } := fun md t => by
    have hin : ∀ i ∈ Region.linearise md ops t, i < ops.size := fun i hi => by have := ((lin_ok md ops (hcl md) hon t).1 i).1 hi; exact List.mem_range.1 this
    have hm := main md t
    rw [vops_addAp vs _ (fun i hi => by rw [← addAp_length, hls]; exact hin i hi)] at hm
    exact ops_region hc hz _ hin hm hdrew hf
  unfold Region.schedule
  split
  · exact fin _ _
  · exact fin _ _
end
theorem least_of (p : Nat → Prop) (h : ∃ m, p m) : ∃ m, p m ∧ ∀ k, p k → m ≤ k := by
  obtain ⟨m, hm⟩ := h
  induction m using Nat.strongRecOn with
  | _ m ih =>
    by_cases hk : ∃ k, k < m ∧ p k
    · obtain ⟨k, hlt, hpk⟩ := hk; exact ih k hlt hpk
    · exact ⟨m, hm, fun k hpk => Nat.le_of_not_lt (fun hlt => hk ⟨k, hlt, hpk⟩)⟩
open Classical in
noncomputable def least (p : Nat → Prop) : Nat := if h : ∃ m, p m ∧ ∀ k, p k → m ≤ k then Classical.choose h else 0
theorem least_spec {p : Nat → Prop} (h : ∃ m, p m) : p (least p) ∧ ∀ k, p k → least p ≤ k := by
  have := least_of p h
  unfold least
  rw [dif_pos this]
  exact Classical.choose_spec this
end Go.Proofs.YtglekfgoadehbaaDoor.V
end
