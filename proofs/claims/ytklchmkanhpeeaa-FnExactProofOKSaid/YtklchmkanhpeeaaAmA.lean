/- The abstract memory logic, first part: abstract values, what they stand for in a world, and how that lasts. -/
import Derived.WalkKit
import Derived.Orders
namespace Go.Am
open Go

/-- Names of objects: the call's own; one that a pointer among its arguments leads to; its caller's. -/
inductive ID where
  | loc (i : Nat)
  | bor (i : Nat)
  | up (x : ID)
  deriving DecidableEq

/-- An abstract value. 'imm': a slice whose cells nobody writes any more; 'osl': a slice over a row of the call's own; 'optr': a pointer into an object; 'cptr': a pointer to cells that nobody writes. -/
inductive AV where
  | any
  | jnk
  | int (k : IntKind) (n : Int)
  | bool (b : Bool)
  | str (s : ByteArray)
  | nilp
  | optr (x : ID) (i off : Nat)
  | cptr (cs : List AV)
  | imm (tok sz : Nat) (full : Bool) (es : List (List AV))
  | osl (x : ID)
  | fn (f : Fn) (first captured : List AV)
  | nilfn
  | iface (t : TypeId) (v : AV)
  | nilif
  | agg (cs : List AV)
  | tup (vs : List AV)
  deriving Inhabited

/-- What may stand among the captured of a function value that lies in a cell. -/
def AV.c0 : AV → Bool
  | .int .. => true
  | .bool _ => true
  | .str _ => true
  | .nilp => true
  | .optr .. => true
  | .imm .. => true
  | .nilfn => true
  | .nilif => true
  | _ => false

def allc0 : List AV → Bool
  | [] => true
  | v :: r => match AV.c0 v with
    | true => allc0 r
    | false => false

/-- What may lie in a cell. -/
def AV.d1 : AV → Bool
  | .jnk => true
  | .int .. => true
  | .bool _ => true
  | .str _ => true
  | .nilp => true
  | .optr .. => true
  | .cptr _ => true
  | .imm .. => true
  | .osl _ => true
  | .nilfn => true
  | .nilif => true
  | .fn _ a b => match allc0 a with
    | true => allc0 b
    | false => false
  | _ => false

def alld1 : List AV → Bool
  | [] => true
  | v :: r => match AV.d1 v with
    | true => alld1 r
    | false => false

/-- The name that a callee has for what its caller names so. -/
def AV.up0 : AV → AV
  | .optr x i o => .optr (.up x) i o
  | v => v

def AV.up : AV → AV
  | .optr x i o => .optr (.up x) i o
  | .osl x => .osl (.up x)
  | .fn f a b => .fn f (a.map AV.up0) (b.map AV.up0)
  | v => v

structure Obj where
  ty : TypeId
  sz : Nat
  box : Bool
  es : List (List AV)

def Obj.up (o : Obj) : Obj := { o with es := o.es.map (·.map AV.up) }

abbrev Heap := ID → Option Obj

structure Sit where
  w : World
  β : ID → Nat
  O : Heap
  τ : Nat → Nat
  tk : Nat
  B0 : Nat
  hid : ID → Option Nat
  fz : ID → Bool

def Sit.live (S : Sit) (b : Nat) : Prop := ∃ x, (S.O x).isSome = true ∧ S.β x = b
def Sit.con (S : Sit) (b : Nat) : Prop := b < S.w.heap.size ∧ ¬ S.live b

/-- What an abstract value without references to objects stands for. -/
inductive RepC (S : Sit) : AV → Value → Prop
  | int (k n) : RepC S (.int k n) (.int k n)
  | bool (b) : RepC S (.bool b) (.bool b)
  | str (s) : RepC S (.str s) (.string s)
  | nilp : RepC S .nilp (.pointer none)
  | cptr (cs : List AV) (b o : Nat) (us : Nat → Value) (hc : S.con b)
      (hs : ∀ (j : Nat) (x : AV), cs[j]? = some x → x.d1 = true)
      (h1 : ∀ j x, cs[j]? = some x → S.w.cell? ⟨b, o + j, none⟩ = some (us j)) (h2 : ∀ j x, cs[j]? = some x → RepC S x (us j)) :
      RepC S (.cptr cs) (.pointer (some ⟨b, o, none⟩))
  | imm0 (tok sz full a c) (hf : full = true → c = 0) (hm : c ≤ maxLen) : RepC S (.imm tok sz full []) (.slice a 0 c)
  | imm (tok sz : Nat) (full : Bool) (es : List (List AV)) (b o c : Nat) (us : Nat → Nat → Value) (hne : es ≠ []) (hc : S.con b) (hl : es.length ≤ c) (hm : c ≤ maxLen)
      (hf : full = true → c = es.length) (ht : 2 ≤ tok → tok < S.tk ∧ S.τ tok = b ∧ o = 0) (h0 : tok = 0 → b < S.B0) (hsz : ∀ e ∈ es, e.length = sz)
      (hs : ∀ (i : Nat) (e : List AV) (j : Nat) (x : AV), es[i]? = some e → e[j]? = some x → x.d1 = true)
      (h1 : ∀ i e j x, es[i]? = some e → e[j]? = some x → S.w.cell? ⟨b, o + (i * sz + j), none⟩ = some (us i j))
      (h2 : ∀ i e j x, es[i]? = some e → e[j]? = some x → RepC S x (us i j)) : RepC S (.imm tok sz full es) (.slice (some ⟨b, o, none⟩) es.length c)
  | fn (f : Fn) (first cap : List AV) (us1 us2 : Array Value) (l1 : us1.size = first.length) (l2 : us2.size = cap.length)
      (h1 : ∀ j x, first[j]? = some x → RepC S x (us1.getD j undef)) (h2 : ∀ j x, cap[j]? = some x → RepC S x (us2.getD j undef)) : RepC S (.fn f first cap) (.func f us1 us2)
  | nilfn : RepC S .nilfn .nilFunc
  | iface (t v u) (h : RepC S v u) : RepC S (.iface t v) (.iface t u)
  | nilif : RepC S .nilif .nilIface
  | agg (cs : List AV) (us : Array Value) (hl : us.size = cs.length) (hs : ∀ (j : Nat) (x : AV), cs[j]? = some x → x.d1 = true)
      (h : ∀ j x, cs[j]? = some x → RepC S x (us.getD j undef)) : RepC S (.agg cs) (.agg us)
  | tup (cs : List AV) (us : Array Value) (hl : us.size = cs.length) (h : ∀ j x, cs[j]? = some x → RepC S x (us.getD j undef)) : RepC S (.tup cs) (.tuple us)

/-- What any abstract value stands for. -/
inductive Rep (S : Sit) : AV → Value → Prop
  | any (u) : Rep S .any u
  | jnk (u : Value) (h : u.oneCell' = true) : Rep S .jnk u
  | clo {v u} (h : RepC S v u) : Rep S v u
  | optr (x i off o) (ho : S.O x = some o) : Rep S (.optr x i off) (.pointer (some ⟨S.β x, i * o.sz + off, none⟩))
  | hidp (x i off sz) (h : S.hid x = some sz) : Rep S (.optr x i off) (.pointer (some ⟨S.β x, i * sz + off, none⟩))
  | osl (x o c) (cur : Array Value) (ho : S.O x = some o) (hb : o.box = false) (hw : S.w.heap[S.β x]? = some (.cells cur o.ty (0, 0))) (hc : cur.size = c * o.sz)
      (hl : o.es.length ≤ c) (hm : c ≤ maxLen) : Rep S (.osl x) (.slice (some ⟨S.β x, 0, none⟩) o.es.length c)
  | fn (f : Fn) (first cap : List AV) (us1 us2 : Array Value) (l1 : us1.size = first.length) (l2 : us2.size = cap.length)
      (h1 : ∀ j x, first[j]? = some x → Rep S x (us1.getD j undef)) (h2 : ∀ j x, cap[j]? = some x → Rep S x (us2.getD j undef)) : Rep S (.fn f first cap) (.func f us1 us2)
  | agg (cs : List AV) (us : Array Value) (hl : us.size = cs.length) (hs : ∀ (j : Nat) (x : AV), cs[j]? = some x → x.d1 = true)
      (h : ∀ j x, cs[j]? = some x → Rep S x (us.getD j undef)) : Rep S (.agg cs) (.agg us)
  | tup (cs : List AV) (us : Array Value) (hl : us.size = cs.length) (h : ∀ j x, cs[j]? = some x → Rep S x (us.getD j undef)) : Rep S (.tup cs) (.tuple us)

structure SimH (S : Sit) : Prop where
  obj : ∀ x o, S.O x = some o → ∃ cur, S.w.heap[S.β x]? = some (.cells cur o.ty (0, 0)) ∧ o.es.length * o.sz ≤ cur.size ∧ (o.box = true → o.es.length = 1 ∧ cur.size = o.sz) ∧
    (∀ e ∈ o.es, e.length = o.sz) ∧ ∀ (i : Nat) (e : List AV) (j : Nat) (v : AV), o.es[i]? = some e → e[j]? = some v → v.d1 = true ∧ ∃ u, cur[i * o.sz + j]? = some u ∧ Rep S v u ∧ (o.box = false → RepC S v u)
  inj : ∀ x y, (S.O x).isSome = true → (S.O y).isSome = true → S.β x = S.β y → x = y
  base : ∀ x, (S.O x).isSome = true → S.B0 ≤ S.β x
  tok : ∀ t, 2 ≤ t → t < S.tk → S.τ t < S.w.heap.size ∧ ¬ S.live (S.τ t) ∧ S.B0 ≤ S.τ t
  tinj : ∀ t t', 2 ≤ t → t < S.tk → 2 ≤ t' → t' < S.tk → S.τ t = S.τ t' → t = t'
  b0 : S.B0 ≤ S.w.heap.size
  hid : ∀ x sz, S.hid x = some sz → S.O x = none
  tk2 : 2 ≤ S.tk

/-- Later: what nobody writes is as it was. -/
structure Le (S S' : Sit) : Prop where
  size : S.w.heap.size ≤ S'.w.heap.size
  os : S'.w.os = S.w.os
  tape : S'.w.tape = S.w.tape
  output : S'.w.output = S.w.output
  B0 : S'.B0 = S.B0
  tk : S.tk ≤ S'.tk
  tau : ∀ t, t < S.tk → S'.τ t = S.τ t
  con : ∀ b, S.con b → S'.con b ∧ S'.w.heap[b]? = S.w.heap[b]?

theorem alld1_at : ∀ {l : List AV}, alld1 l = true → ∀ (j : Nat) (x : AV), l[j]? = some x → x.d1 = true
  | [], _, j, x, h => by simp at h
  | v :: r, h, j, x, hx => by
    unfold alld1 at h
    split at h
    · rename_i hv
      cases j with
      | zero => simp at hx; subst hx; exact hv
      | succ j => exact alld1_at h j x (by simpa using hx)
    · cases h

theorem allc0_at : ∀ {l : List AV}, allc0 l = true → ∀ (j : Nat) (x : AV), l[j]? = some x → x.c0 = true
  | [], _, j, x, h => by simp at h
  | v :: r, h, j, x, hx => by
    unfold allc0 at h
    split at h
    · rename_i hv
      cases j with
      | zero => simp at hx; subst hx; exact hv
      | succ j => exact allc0_at h j x (by simpa using hx)
    · cases h

theorem Le.refl (S : Sit) : Le S S := ⟨Nat.le_refl _, rfl, rfl, rfl, rfl, Nat.le_refl _, fun _ _ => rfl, fun _ h => ⟨h, rfl⟩⟩
theorem Le.trans {A B C : Sit} (h : Le A B) (k : Le B C) : Le A C :=
  ⟨Nat.le_trans h.size k.size, k.os.trans h.os, k.tape.trans h.tape, k.output.trans h.output, k.B0.trans h.B0, Nat.le_trans h.tk k.tk,
    fun t ht => (k.tau t (Nat.lt_of_lt_of_le ht h.tk)).trans (h.tau t ht), fun b hb => ⟨(k.con b (h.con b hb).1).1, (k.con b (h.con b hb).1).2.trans (h.con b hb).2⟩⟩

theorem cell_of_eq {w w' : World} {b o : Nat} {u : Value} (h : w'.heap[b]? = w.heap[b]?) (hc : w.cell? ⟨b, o, none⟩ = some u) : w'.cell? ⟨b, o, none⟩ = some u := by
  rw [← hc]; simp [World.cell?, h]

theorem RepC.le {S S' : Sit} (hle : Le S S') {v : AV} {u : Value} (h : RepC S v u) : RepC S' v u := by
  induction h with
  | int k n => exact .int k n
  | bool b => exact .bool b
  | str s => exact .str s
  | nilp => exact .nilp
  | cptr cs b o us hc hs h1 h2 ih => exact .cptr cs b o us (hle.con b hc).1 hs (fun j x hj => cell_of_eq (hle.con b hc).2 (h1 j x hj)) ih
  | imm0 tok sz full a c hf hm => exact .imm0 tok sz full a c hf hm
  | imm tok sz full es b o c us hne hc hl hm hf ht h0 hsz hs h1 h2 ih =>
    exact .imm tok sz full es b o c us hne (hle.con b hc).1 hl hm hf (fun h => let ⟨a, b, c⟩ := ht h; ⟨Nat.lt_of_lt_of_le a hle.tk, (hle.tau _ a).trans b, c⟩)
      (fun h => by rw [hle.B0]; exact h0 h) hsz hs (fun i e j x hi hj => cell_of_eq (hle.con b hc).2 (h1 i e j x hi hj)) ih
  | fn f first cap us1 us2 l1 l2 h1 h2 ih1 ih2 => exact .fn f first cap us1 us2 l1 l2 ih1 ih2
  | nilfn => exact .nilfn
  | iface t v u h ih => exact .iface t v u ih
  | nilif => exact .nilif
  | agg cs us hl hs h ih => exact .agg cs us hl hs ih
  | tup cs us hl h ih => exact .tup cs us hl ih

/-- Later, with all objects still there: a row is as it was, a box holds something of its shape. -/
structure Ext (S S' : Sit) : Prop extends Le S S' where
  obj : ∀ x o, S.O x = some o → ∃ o', S'.O x = some o' ∧ o'.ty = o.ty ∧ o'.sz = o.sz ∧ o'.box = o.box ∧ S'.β x = S.β x ∧
    (o.box = false ∨ S.fz x = true → o' = o ∧ S'.w.heap[S.β x]? = S.w.heap[S.β x]?)
  non : ∀ x, S.O x = none → S'.O x = none
  hid : ∀ x sz, S.hid x = some sz → S'.hid x = some sz ∧ S'.β x = S.β x
  hidE : S'.hid = S.hid
  fzE : S'.fz = S.fz
  fresh : ∀ t, S.tk ≤ t → t < S'.tk → S.w.heap.size ≤ S'.τ t

theorem Ext.refl (S : Sit) : Ext S S := ⟨Le.refl S, fun x o h => ⟨o, h, rfl, rfl, rfl, rfl, fun _ => ⟨rfl, rfl⟩⟩, fun _ h => h, fun _ _ h => ⟨h, rfl⟩, rfl, rfl, fun t h1 h2 => by omega⟩
theorem Ext.trans {A B C : Sit} (h : Ext A B) (k : Ext B C) : Ext A C := by
  refine ⟨h.toLe.trans k.toLe, fun x o hx => ?_, fun x hx => k.non x (h.non x hx), fun x z hx => ⟨(k.hid x z (h.hid x z hx).1).1, (k.hid x z (h.hid x z hx).1).2.trans (h.hid x z hx).2⟩, k.hidE.trans h.hidE, k.fzE.trans h.fzE, fun t h1 h2 => ?_⟩
  rotate_left
  · by_cases hb : t < B.tk
    · rw [k.tau t hb]; exact h.fresh t h1 hb
    · exact Nat.le_trans h.size (k.fresh t (by omega) h2)
  obtain ⟨o1, h1, a1, b1, c1, d1, e1⟩ := h.obj x o hx
  obtain ⟨o2, h2, a2, b2, c2, d2, e2⟩ := k.obj x o1 h1
  refine ⟨o2, h2, a2.trans a1, b2.trans b1, c2.trans c1, d2.trans d1, fun hb => ?_⟩
  have q := e1 hb
  have r := e2 (hb.imp c1.trans fun q => by rw [h.fzE]; exact q)
  rw [d1] at r
  exact ⟨r.1.trans q.1, r.2.trans q.2⟩

theorem Rep.ext {S S' : Sit} (hx : Ext S S') {v : AV} {u : Value} (h : Rep S v u) : Rep S' v u := by
  induction h with
  | any u => exact .any u
  | jnk u h => exact .jnk u h
  | clo h => exact .clo (h.le hx.toLe)
  | optr x i off o ho =>
    obtain ⟨o', h', _, hz, _, hb, _⟩ := hx.obj x o ho
    rw [← hb, ← hz]
    exact .optr x i off o' h'
  | hidp x i off sz h => rw [← (hx.hid x sz h).2]; exact .hidp x i off sz (hx.hid x sz h).1
  | osl x o c cur ho hb hw hc hl hm =>
    obtain ⟨o', h', _, hz, hb', hbe, hq⟩ := hx.obj x o ho
    obtain ⟨rfl, hh⟩ := hq (.inl hb)
    rw [← hbe]
    exact .osl x o' c cur h' hb (by rw [hbe, hh]; exact hw) hc hl hm
  | fn f first cap us1 us2 l1 l2 h1 h2 ih1 ih2 => exact .fn f first cap us1 us2 l1 l2 ih1 ih2
  | agg cs us hl hs h ih => exact .agg cs us hl hs ih
  | tup cs us hl h ih => exact .tup cs us hl ih

end Go.Am
