/- The abstract memory logic and its tools: several texts in one. -/
import Derived.WalkKit
import Derived.Test.YtoajlhhalpldfaaGreatDoorAm0
import Derived.Orders
import Derived.Laws.Cells
import Derived.Laws.Build
import Derived.Laws.AppendOwn

/- The abstract memory logic, first part: abstract values, what they stand for in a world, and how that lasts. -/
namespace Go.Am
open Go

inductive ID where
 | loc (i : Nat)
 | bor (i : Nat)
 | up (x : ID)
 deriving DecidableEq

inductive AV where
 | any
 | jnk
 | int (k : IntKind) (n : Int)
 | bool (b : Bool)
 | str (s : ByteArray)
 | nilp
 | optr (x : ID) (i off : Nat)
 | cptr (cs : List AV)
 | imm (tok sz : Nat) (full : Bool) (es : List (List AV))
 | osl (x : ID)
 | fn (f : Fn) (first captured : List AV)
 | nilfn
 | iface (t : TypeId) (v : AV)
 | nilif
 | agg (cs : List AV)
 | tup (vs : List AV)
 deriving Inhabited

def AV.c0 : AV → Bool
 | .int .. => true
 | .bool _ => true
 | .str _ => true
 | .nilp => true
 | .optr .. => true
 | .cptr _ => true
 | .imm .. => true
 | .nilfn => true
 | .nilif => true
 | _ => false

def allc0 : List AV → Bool
 | [] => true
 | v :: r => match AV.c0 v with
  | true => allc0 r
  | false => false

def AV.d1 : AV → Bool
 | .jnk => true
 | .int .. => true
 | .bool _ => true
 | .str _ => true
 | .nilp => true
 | .optr .. => true
 | .cptr _ => true
 | .imm .. => true
 | .osl _ => true
 | .nilfn => true
 | .nilif => true
 | .fn _ a b => match allc0 a with
  | true => allc0 b
  | false => false
 | _ => false

def alld1 : List AV → Bool
 | [] => true
 | v :: r => match AV.d1 v with
  | true => alld1 r
  | false => false

def AV.up0 : AV → AV
 | .optr x i o => .optr (.up x) i o
 | v => v

def AV.up : AV → AV
 | .optr x i o => .optr (.up x) i o
 | .osl x => .osl (.up x)
 | .fn f a b => .fn f (a.map AV.up0) (b.map AV.up0)
 | v => v

structure Obj where
 ty : TypeId
 sz : Nat
 box : Bool
 es : List (List AV)

def Obj.up (o : Obj) : Obj := { o with es := o.es.map (·.map AV.up) }

abbrev Heap := ID → Option Obj

structure Sit where
 w : World
 β : ID → Nat
 O : Heap
 τ : Nat → Nat
 tk : Nat
 B0 : Nat
 hid : ID → Option Nat
 fz : ID → Bool

def Sit.live (S : Sit) (b : Nat) : Prop := ∃ x, (S.O x).isSome = true ∧ S.β x = b
def Sit.con (S : Sit) (b : Nat) : Prop := b < S.w.heap.size ∧ ¬ S.live b

inductive RepC (S : Sit) : AV → Value → Prop
 | int (k n) : RepC S (.int k n) (.int k n)
 | bool (b) : RepC S (.bool b) (.bool b)
 | str (s) : RepC S (.str s) (.string s)
 | nilp : RepC S .nilp (.pointer none)
 | cptr (cs : List AV) (b o : Nat) (us : Nat → Value) (hc : S.con b)
   (hs : ∀ (j : Nat) (x : AV), cs[j]? = some x → x.d1 = true)
   (h1 : ∀ j x, cs[j]? = some x → S.w.cell? ⟨b, o + j, none⟩ = some (us j)) (h2 : ∀ j x, cs[j]? = some x → RepC S x (us j)) :
   RepC S (.cptr cs) (.pointer (some ⟨b, o, none⟩))
 | imm0 (tok sz full a c) (hf : full = true → c = 0) (hm : c ≤ maxLen) : RepC S (.imm tok sz full []) (.slice a 0 c)
 | imm (tok sz : Nat) (full : Bool) (es : List (List AV)) (b o c : Nat) (us : Nat → Nat → Value) (hne : es ≠ []) (hc : S.con b) (hl : es.length ≤ c) (hm : c ≤ maxLen)
   (hf : full = true → c = es.length) (ht : 2 ≤ tok → tok < S.tk ∧ S.τ tok = b ∧ o = 0 ∧ ∃ (cur : Array Value) (ty : TypeId), S.w.heap[b]? = some (.cells cur ty (0, 0))) (h0 : tok = 0 → b < S.B0) (hsz : ∀ e ∈ es, e.length = sz)
   (hs : ∀ (i : Nat) (e : List AV) (j : Nat) (x : AV), es[i]? = some e → e[j]? = some x → x.d1 = true)
   (h1 : ∀ i e j x, es[i]? = some e → e[j]? = some x → S.w.cell? ⟨b, o + (i * sz + j), none⟩ = some (us i j))
   (h2 : ∀ i e j x, es[i]? = some e → e[j]? = some x → RepC S x (us i j)) : RepC S (.imm tok sz full es) (.slice (some ⟨b, o, none⟩) es.length c)
 | fn (f : Fn) (first cap : List AV) (us1 us2 : Array Value) (l1 : us1.size = first.length) (l2 : us2.size = cap.length)
   (h1 : ∀ j x, first[j]? = some x → RepC S x (us1.getD j undef)) (h2 : ∀ j x, cap[j]? = some x → RepC S x (us2.getD j undef)) : RepC S (.fn f first cap) (.func f us1 us2)
 | nilfn : RepC S .nilfn .nilFunc
 | iface (t v u) (h : RepC S v u) : RepC S (.iface t v) (.iface t u)
 | nilif : RepC S .nilif .nilIface
 | agg (cs : List AV) (us : Array Value) (hl : us.size = cs.length) (hs : ∀ (j : Nat) (x : AV), cs[j]? = some x → x.d1 = true)
   (h : ∀ j x, cs[j]? = some x → RepC S x (us.getD j undef)) : RepC S (.agg cs) (.agg us)
 | tup (cs : List AV) (us : Array Value) (hl : us.size = cs.length) (h : ∀ j x, cs[j]? = some x → RepC S x (us.getD j undef)) : RepC S (.tup cs) (.tuple us)

inductive Rep (S : Sit) : AV → Value → Prop
 | any (u) : Rep S .any u
 | jnk (u : Value) (h : u.oneCell' = true) : Rep S .jnk u
 | clo {v u} (h : RepC S v u) : Rep S v u
 | optr (x i off o) (ho : S.O x = some o) : Rep S (.optr x i off) (.pointer (some ⟨S.β x, i * o.sz + off, none⟩))
 | hidp (x i off sz) (h : S.hid x = some sz) : Rep S (.optr x i off) (.pointer (some ⟨S.β x, i * sz + off, none⟩))
 | osl (x o c) (cur : Array Value) (ho : S.O x = some o) (hb : o.box = false) (hw : S.w.heap[S.β x]? = some (.cells cur o.ty (0, 0))) (hc : cur.size = c * o.sz)
   (hl : o.es.length ≤ c) (hm : c ≤ maxLen) : Rep S (.osl x) (.slice (some ⟨S.β x, 0, none⟩) o.es.length c)
 | fn (f : Fn) (first cap : List AV) (us1 us2 : Array Value) (l1 : us1.size = first.length) (l2 : us2.size = cap.length)
   (h1 : ∀ j x, first[j]? = some x → Rep S x (us1.getD j undef)) (h2 : ∀ j x, cap[j]? = some x → Rep S x (us2.getD j undef)) : Rep S (.fn f first cap) (.func f us1 us2)
 | agg (cs : List AV) (us : Array Value) (hl : us.size = cs.length) (hs : ∀ (j : Nat) (x : AV), cs[j]? = some x → x.d1 = true)
   (h : ∀ j x, cs[j]? = some x → Rep S x (us.getD j undef)) : Rep S (.agg cs) (.agg us)
 | tup (cs : List AV) (us : Array Value) (hl : us.size = cs.length) (h : ∀ j x, cs[j]? = some x → Rep S x (us.getD j undef)) : Rep S (.tup cs) (.tuple us)

structure SimH (S : Sit) : Prop where
 obj : ∀ x o, S.O x = some o → ∃ cur, S.w.heap[S.β x]? = some (.cells cur o.ty (0, 0)) ∧ o.es.length * o.sz ≤ cur.size ∧ (o.box = true → o.es.length = 1 ∧ cur.size = o.sz) ∧
  (∀ e ∈ o.es, e.length = o.sz) ∧ ∀ (i : Nat) (e : List AV) (j : Nat) (v : AV), o.es[i]? = some e → e[j]? = some v → v.d1 = true ∧ ∃ u, cur[i * o.sz + j]? = some u ∧ Rep S v u ∧ (o.box = false → RepC S v u)
 inj : ∀ x y, (S.O x).isSome = true → (S.O y).isSome = true → S.β x = S.β y → x = y
 base : ∀ x, (S.O x).isSome = true → S.B0 ≤ S.β x
 tok : ∀ t, 2 ≤ t → t < S.tk → S.τ t < S.w.heap.size ∧ ¬ S.live (S.τ t) ∧ S.B0 ≤ S.τ t
 tinj : ∀ t t', 2 ≤ t → t < S.tk → 2 ≤ t' → t' < S.tk → S.τ t = S.τ t' → t = t'
 b0 : S.B0 ≤ S.w.heap.size
 hid : ∀ x sz, S.hid x = some sz → S.O x = none
 tk2 : 2 ≤ S.tk

structure Le (S S' : Sit) : Prop where
 size : S.w.heap.size ≤ S'.w.heap.size
 os : S'.w.os = S.w.os
 tape : S'.w.tape = S.w.tape
 output : S'.w.output = S.w.output
 B0 : S'.B0 = S.B0
 tk : S.tk ≤ S'.tk
 tau : ∀ t, t < S.tk → S'.τ t = S.τ t
 con : ∀ b, S.con b → S'.con b ∧ S'.w.heap[b]? = S.w.heap[b]?

theorem alld1_at : ∀ {l : List AV}, alld1 l = true → ∀ (j : Nat) (x : AV), l[j]? = some x → x.d1 = true
 | [], _, j, x, h => by simp at h
 | v :: r, h, j, x, hx => by
  unfold alld1 at h
  split at h
  ·rename_i hv
   cases j with
   | zero => simp at hx; subst hx; exact hv
   | succ j => exact alld1_at h j x (by simpa using hx)
  cases h

theorem allc0_at : ∀ {l : List AV}, allc0 l = true → ∀ (j : Nat) (x : AV), l[j]? = some x → x.c0 = true
 | [], _, j, x, h => by simp at h
 | v :: r, h, j, x, hx => by
  unfold allc0 at h
  split at h
  ·rename_i hv
   cases j with
   | zero => simp at hx; subst hx; exact hv
   | succ j => exact allc0_at h j x (by simpa using hx)
  cases h

theorem Le.refl (S : Sit) : Le S S := ⟨Nat.le_refl _, rfl, rfl, rfl, rfl, Nat.le_refl _, fun _ _ => rfl, fun _ h => ⟨h, rfl⟩⟩
theorem Le.trans {A B C : Sit} (h : Le A B) (k : Le B C) : Le A C :=
 ⟨Nat.le_trans h.size k.size, k.os.trans h.os, k.tape.trans h.tape, k.output.trans h.output, k.B0.trans h.B0, Nat.le_trans h.tk k.tk,
  fun t ht => (k.tau t (Nat.lt_of_lt_of_le ht h.tk)).trans (h.tau t ht), fun b hb => ⟨(k.con b (h.con b hb).1).1, (k.con b (h.con b hb).1).2.trans (h.con b hb).2⟩⟩

theorem cell_of_eq {w w' : World} {b o : Nat} {u : Value} (h : w'.heap[b]? = w.heap[b]?) (hc : w.cell? ⟨b, o, none⟩ = some u) : w'.cell? ⟨b, o, none⟩ = some u := by
 rw [← hc]; simp [World.cell?, h]

theorem RepC.le {S S' : Sit} (hle : Le S S') {v : AV} {u : Value} (h : RepC S v u) : RepC S' v u := by
 induction h with
 | int k n => exact .int k n
 | bool b => exact .bool b
 | str s => exact .str s
 | nilp => exact .nilp
 | cptr cs b o us hc hs h1 h2 ih => exact .cptr cs b o us (hle.con b hc).1 hs (fun j x hj => cell_of_eq (hle.con b hc).2 (h1 j x hj)) ih
 | imm0 tok sz full a c hf hm => exact .imm0 tok sz full a c hf hm
 | imm tok sz full es b o c us hne hc hl hm hf ht h0 hsz hs h1 h2 ih =>
  exact .imm tok sz full es b o c us hne (hle.con b hc).1 hl hm hf (fun h => let ⟨a, b, c, cur, ty, d⟩ := ht h; ⟨Nat.lt_of_lt_of_le a hle.tk, (hle.tau _ a).trans b, c, cur, ty, (hle.con _ hc).2.trans d⟩)
   (fun h => by rw [hle.B0]; exact h0 h) hsz hs (fun i e j x hi hj => cell_of_eq (hle.con b hc).2 (h1 i e j x hi hj)) ih
 | fn f first cap us1 us2 l1 l2 h1 h2 ih1 ih2 => exact .fn f first cap us1 us2 l1 l2 ih1 ih2
 | nilfn => exact .nilfn
 | iface t v u h ih => exact .iface t v u ih
 | nilif => exact .nilif
 | agg cs us hl hs h ih => exact .agg cs us hl hs ih
 | tup cs us hl h ih => exact .tup cs us hl ih

structure Ext (S S' : Sit) : Prop extends Le S S' where
 obj : ∀ x o, S.O x = some o → ∃ o', S'.O x = some o' ∧ o'.ty = o.ty ∧ o'.sz = o.sz ∧ o'.box = o.box ∧ S'.β x = S.β x ∧
  (o.box = false ∨ S.fz x = true → o' = o ∧ S'.w.heap[S.β x]? = S.w.heap[S.β x]?)
 non : ∀ x, S.O x = none → S'.O x = none
 hid : ∀ x sz, S.hid x = some sz → S'.hid x = some sz ∧ S'.β x = S.β x
 hidE : S'.hid = S.hid
 fzE : S'.fz = S.fz
 fresh : ∀ t, S.tk ≤ t → t < S'.tk → S.w.heap.size ≤ S'.τ t

theorem Ext.refl (S : Sit) : Ext S S := ⟨Le.refl S, fun x o h => ⟨o, h, rfl, rfl, rfl, rfl, fun _ => ⟨rfl, rfl⟩⟩, fun _ h => h, fun _ _ h => ⟨h, rfl⟩, rfl, rfl, fun t h1 h2 => by omega⟩
theorem Ext.trans {A B C : Sit} (h : Ext A B) (k : Ext B C) : Ext A C := by
 refine ⟨h.toLe.trans k.toLe, fun x o hx => ?_, fun x hx => k.non x (h.non x hx), fun x z hx => ⟨(k.hid x z (h.hid x z hx).1).1, (k.hid x z (h.hid x z hx).1).2.trans (h.hid x z hx).2⟩, k.hidE.trans h.hidE, k.fzE.trans h.fzE, fun t h1 h2 => ?_⟩
 rotate_left
 ·by_cases hb : t < B.tk
  ·rw [k.tau t hb]; exact h.fresh t h1 hb
  exact Nat.le_trans h.size (k.fresh t (by omega) h2)
 obtain ⟨o1, h1, a1, b1, c1, d1, e1⟩ := h.obj x o hx
 obtain ⟨o2, h2, a2, b2, c2, d2, e2⟩ := k.obj x o1 h1
 refine ⟨o2, h2, a2.trans a1, b2.trans b1, c2.trans c1, d2.trans d1, fun hb => ?_⟩
 have q := e1 hb
 have r := e2 (hb.imp c1.trans fun q => by rw [h.fzE]; exact q)
 rw [d1] at r
 exact ⟨r.1.trans q.1, r.2.trans q.2⟩

theorem Rep.ext {S S' : Sit} (hx : Ext S S') {v : AV} {u : Value} (h : Rep S v u) : Rep S' v u := by
 induction h with
 | any u => exact .any u
 | jnk u h => exact .jnk u h
 | clo h => exact .clo (h.le hx.toLe)
 | optr x i off o ho =>
  obtain ⟨o', h', _, hz, _, hb, _⟩ := hx.obj x o ho
  rw [← hb, ← hz]
  exact .optr x i off o' h'
 | hidp x i off sz h => rw [← (hx.hid x sz h).2]; exact .hidp x i off sz (hx.hid x sz h).1
 | osl x o c cur ho hb hw hc hl hm =>
  obtain ⟨o', h', _, hz, hb', hbe, hq⟩ := hx.obj x o ho
  obtain ⟨rfl, hh⟩ := hq (.inl hb)
  rw [← hbe]
  exact .osl x o' c cur h' hb (by rw [hbe, hh]; exact hw) hc hl hm
 | fn f first cap us1 us2 l1 l2 h1 h2 ih1 ih2 => exact .fn f first cap us1 us2 l1 l2 ih1 ih2
 | agg cs us hl hs h ih => exact .agg cs us hl hs ih
 | tup cs us hl h ih => exact .tup cs us hl ih

structure Chg (T : Nat → Prop) (A : Sit) (w' : World) : Prop where
 rest : w' = { A.w with heap := w'.heap }
 size : w'.heap.size = A.w.heap.size
 same : ∀ b, (∀ t, T t → 2 ≤ t → t < A.tk → A.τ t ≠ b) → w'.heap[b]? = A.w.heap[b]?

def ExtT (T : Nat → Prop) (A B : Sit) : Prop := ∃ w', Chg T A w' ∧ Ext { A with w := w' } B

section
variable {T : Nat → Prop} {A B C : Sit}
theorem Chg.refl (T : Nat → Prop) (A : Sit) : Chg T A A.w := ⟨rfl, rfl, fun _ _ => rfl⟩
theorem Chg.none (h : ∀ t, ¬ T t) {w' : World} (k : Chg T A w') : w' = A.w := by
 rw [k.rest]
 have : w'.heap = A.w.heap := Array.ext_getElem? fun b => k.same b fun t ht => absurd ht (h t)
 rw [this]
theorem Ext.toT (h : Ext A B) : ExtT T A B := ⟨A.w, .refl T A, h⟩
theorem ExtT.un (h : ExtT T A B) (k : ∀ t, ¬ T t) : Ext A B := by
 obtain ⟨w', h1, h2⟩ := h
 have := h1.none k
 subst this
 exact h2
theorem ExtT.size (h : ExtT T A B) : A.w.heap.size ≤ B.w.heap.size := by obtain ⟨w', h1, h2⟩ := h; rw [← h1.size]; exact h2.size
theorem ExtT.os (h : ExtT T A B) : B.w.os = A.w.os := by obtain ⟨w', h1, h2⟩ := h; rw [show A.w.os = w'.os by rw [h1.rest]]; exact h2.os
theorem ExtT.tape (h : ExtT T A B) : B.w.tape = A.w.tape := by obtain ⟨w', h1, h2⟩ := h; rw [show A.w.tape = w'.tape by rw [h1.rest]]; exact h2.tape
theorem ExtT.output (h : ExtT T A B) : B.w.output = A.w.output := by obtain ⟨w', h1, h2⟩ := h; rw [show A.w.output = w'.output by rw [h1.rest]]; exact h2.output
theorem ExtT.B0 (h : ExtT T A B) : B.B0 = A.B0 := let ⟨_, _, h2⟩ := h; h2.B0
theorem ExtT.tk (h : ExtT T A B) : A.tk ≤ B.tk := let ⟨_, _, h2⟩ := h; h2.tk
theorem ExtT.tau (h : ExtT T A B) : ∀ t, t < A.tk → B.τ t = A.τ t := let ⟨_, _, h2⟩ := h; h2.tau
theorem ExtT.non (h : ExtT T A B) : ∀ x, A.O x = Option.none → B.O x = Option.none := let ⟨_, _, h2⟩ := h; h2.non
theorem ExtT.hid (h : ExtT T A B) : ∀ x sz, A.hid x = some sz → B.hid x = some sz ∧ B.β x = A.β x := let ⟨_, _, h2⟩ := h; h2.hid
theorem ExtT.fresh (h : ExtT T A B) : ∀ t, A.tk ≤ t → t < B.tk → A.w.heap.size ≤ B.τ t := by obtain ⟨w', h1, h2⟩ := h; rw [← h1.size]; exact h2.fresh
theorem ExtT.con0 (h : ExtT T A B) : ∀ b, A.con b → B.con b := fun b hb => let ⟨_, h1, h2⟩ := h; (h2.con b ⟨by rw [h1.size]; exact hb.1, hb.2⟩).1
theorem ExtT.obj0 (h : ExtT T A B) : ∀ x o, A.O x = some o → ∃ o', B.O x = some o' ∧ o'.ty = o.ty ∧ o'.sz = o.sz ∧ o'.box = o.box ∧ B.β x = A.β x :=
 fun x o hx => let ⟨_, _, h2⟩ := h; let ⟨o', a, b, c, d, e, _⟩ := h2.obj x o hx; ⟨o', a, b, c, d, e⟩
end

end Go.Am

/- The abstract memory logic, second part: abstract states, what runs from them, and the rules of control. -/
namespace Go.Am
open Go

structure St where
 env : List (Nat × AV)
 l : List (Nat × Obj)
 b : List Obj
 O : Heap
 tk : Nat

def look {α : Type} (i : Nat) : List (Nat × α) → Option α
 | [] => none
 | (j, v) :: r => match Nat.beq i j with
  | true => some v
  | false => look i r

def upd (O : Heap) (x : ID) (o : Obj) : Heap := fun z => if z = x then some o else O z

def merge (l : List (Nat × Obj)) (bor : List ID) (b : List Obj) (O : Heap) : Heap
 | .loc i => look i l
 | .bor i => (b[i]?).map Obj.up
 | .up x => if x ∈ bor then none else (O x).map Obj.up

def OB : List ID → List Obj → Heap → Heap
 | x :: xs, o :: os, O => upd (OB xs os O) x o
 | _, _, O => O

def outer (S : Sit) (O : Heap) (hid : ID → Option Nat) (fz : ID → Bool) : Sit := { S with β := fun x => S.β (.up x), O := O, hid := hid, fz := fz }

structure Ctx where
 P : Program
 S0 : Sit
 nt : Nat
 bor : List ID
 T : Nat → Prop
 ds : List Deferred

def Ctx.heap (C : Ctx) (σ : St) : Heap := merge σ.l C.bor σ.b σ.O
def Ctx.out (C : Ctx) (σ : St) : Heap := OB C.bor σ.b σ.O

structure At (C : Ctx) (σ : St) (a : Act) (w : World) (S : Sit) : Prop where
 w : S.w = w
 O : S.O = C.heap σ
 tk : S.tk = σ.tk
 sim : SimH S
 env : ∀ i v, look i σ.env = some v → ∃ u, a.tmps[i]? = some u ∧ Rep S v u
 nt : a.tmps.size = C.nt
 defers : a.defers = C.ds
 ext : ExtT C.T C.S0 (outer S (C.out σ) C.S0.hid C.S0.fz)
 new : ∀ i, (look i σ.l).isSome = true → C.S0.w.heap.size ≤ S.β (.loc i)
 bl : σ.b.length = C.bor.length
 nd : C.bor.Nodup
 bb : ∀ i x, C.bor[i]? = some x → S.β (.bor i) = S.β (.up x)
 h0 : SimH C.S0
 hl : ∀ i, S.hid (.loc i) = none
 hu : ∀ x sz, S.hid (.up x) = some sz → (x ∈ C.bor ∧ ∃ o0, C.S0.O x = some o0 ∧ o0.sz = sz) ∨ C.S0.hid x = some sz
 hv : ∀ x, (x ∈ C.bor ∨ (C.S0.hid x).isSome = true) → (S.hid (.up x)).isSome = true
 hf : ∀ x ∈ C.bor, C.S0.fz x = false
 inv : Inv C.S0.B0 C.S0.w

inductive AEx where
 | normal
 | exit (id : Nat)
 | ret
 | pan (v : AV)

def QC (C : Ctx) (Q : AEx → St → Prop) : Exit → Act → World → Prop
 | .normal, a, w => ∃ S σ, At C σ a w S ∧ Q .normal σ
 | .exit id, a, w => ∃ S σ, At C σ a w S ∧ Q (.exit id) σ
 | .ret, a, w => ∃ S σ, At C σ a w S ∧ Q .ret σ
 | .panic ch, a, w => ∃ S σ v u, σ.env = [] ∧ At C σ a w S ∧ ch = [{ v := u, recovered := false }] ∧ RepC S v u ∧ Q (.pan v) σ
 | _, _, _ => False

def AWp (C : Ctx) (c : Code) (Q : AEx → St → Prop) (σ : St) : Prop := ∀ a w S, At C σ a w S → c.wp C.P (QC C Q) a w
def AOps (C : Ctx) (all : Array Oper) (Q : AEx → St → Prop) (rest : List Oper) (σ : St) : Prop := ∀ a w S, At C σ a w S → wpList C.P all (QC C Q) rest a w

inductive AItem where
 | code (c : Code)
 | ops (all : Array Oper) (rest : List Oper)
 | blk (id : Nat)
 | loop (J : St → Prop)

def Run (C : Ctx) (Q : AEx → St → Prop) : List AItem → AEx → St → Prop
 | [], e, σ => Q e σ
 | .code c :: ks, .normal, σ => AWp C c (Run C Q ks) σ
 | .ops all rest :: ks, .normal, σ => AOps C all (Run C Q ks) rest σ
 | .loop J :: _, .normal, σ => J σ
 | .blk id :: ks, .exit id', σ => match Nat.beq id' id with
  | true => Run C Q ks .normal σ
  | false => Run C Q ks (.exit id') σ
 | _ :: ks, e, σ => Run C Q ks e σ

section
variable {C : Ctx} {Q : AEx → St → Prop} {ks : List AItem} {σ : St}

theorem QC.mono {Q Q' : AEx → St → Prop} (h : ∀ e σ, Q e σ → Q' e σ) : ∀ e a w, QC C Q e a w → QC C Q' e a w := by
 intro e a w hq
 cases e with
 | normal => obtain ⟨S, σ, h1, h2⟩ := hq; exact ⟨S, σ, h1, h _ _ h2⟩
 | exit id => obtain ⟨S, σ, h1, h2⟩ := hq; exact ⟨S, σ, h1, h _ _ h2⟩
 | ret => obtain ⟨S, σ, h1, h2⟩ := hq; exact ⟨S, σ, h1, h _ _ h2⟩
 | panic ch => obtain ⟨S, σ, v, u, h0, h1, h2, h3, h4⟩ := hq; exact ⟨S, σ, v, u, h0, h1, h2, h3, h _ _ h4⟩
 | goto l => exact hq
 | outgrown => exact hq

theorem AWp.mono {c : Code} {Q Q' : AEx → St → Prop} (h : ∀ e σ, Q e σ → Q' e σ) (k : AWp C c Q σ) : AWp C c Q' σ :=
 fun a w S hat => Code.wp_mono (QC.mono h) (k a w S hat)

theorem run_skip (h : Run C Q ks .normal σ) : Run C Q (.code .skip :: ks) .normal σ := fun _ _ S hat => wp_skip ⟨S, σ, hat, h⟩

theorem run_seq {x y : Code} (h : Run C Q (.code x :: .code y :: ks) .normal σ) : Run C Q (.code (.seq x y) :: ks) .normal σ := by
 intro a w S hat
 refine wp_seq (Code.wp_mono ?_ (h a w S hat))
 intro e a' w' hq
 cases e with
 | normal => obtain ⟨S, σ, h1, h2⟩ := hq; exact h2 _ _ _ h1
 | exit id => exact hq
 | ret => exact hq
 | panic ch => exact hq
 | goto l => exact hq
 | outgrown => exact hq

theorem run_cond {c : Operand} {x y : Code} {b : Bool} {i : Nat} (hc : c = .tmp i) (hv : look i σ.env = some (.bool b)) (h : Run C Q (.code (if b then x else y) :: ks) .normal σ) :
  Run C Q (.code (.cond c x y) :: ks) .normal σ := by
 intro a w S hat
 obtain ⟨u, hu, hr⟩ := hat.env i _ hv
 have hb : u = .bool b := by
  cases hr with
  | clo h => cases h; rfl
 subst hb
 refine wp_cond (t := b) ?_ (h a w S hat)
 subst hc
 simp [Act.eval, hu]

theorem run_block {id : Nat} {c : Code} (h : Run C Q (.code c :: .blk id :: ks) .normal σ) : Run C Q (.code (.block id c) :: ks) .normal σ := by
 intro a w S hat
 refine wp_block (Code.wp_mono ?_ (h a w S hat))
 intro e a' w' hq
 cases e with
 | normal => exact hq
 | exit id' =>
  obtain ⟨S, σ, h1, h2⟩ := hq
  simp only [Run] at h2
  by_cases he : id' = id
  ·subst he
   simp only [Exit.inBlock, if_true]
   rw [show Nat.beq id' id' = true from Nat.beq_refl id'] at h2
   exact ⟨S, σ, h1, h2⟩
  simp only [Exit.inBlock, if_neg he]
  rw [show Nat.beq id' id = false from by rw [← Bool.not_eq_true]; intro hh; exact he (Nat.eq_of_beq_eq_true hh)] at h2
  exact ⟨S, σ, h1, h2⟩
 | ret => exact hq
 | panic ch => exact hq
 | goto l => exact hq
 | outgrown => exact hq

theorem run_blk {id : Nat} (h : Run C Q ks .normal σ) : Run C Q (.blk id :: ks) .normal σ := h

theorem run_exit {id : Nat} (h : Run C Q ks (.exit id) σ) : Run C Q (.code (.exit id) :: ks) .normal σ := fun _ _ S hat => wp_exit ⟨S, σ, hat, h⟩

theorem run_ret (h : Run C Q ks .ret σ) : Run C Q (.code .ret :: ks) .normal σ := fun _ _ S hat => wp_ret ⟨S, σ, hat, h⟩

theorem run_region {id : Nat} {l : List Oper} (h : Run C Q (.ops l.toArray l :: ks) .normal σ) : Run C Q (.code (.region id l.toArray false) :: ks) .normal σ :=
 fun a w S hat => wp_region_lit (h a w S hat)

theorem run_ops_nil {all : Array Oper} (h : Run C Q ks .normal σ) : Run C Q (.ops all [] :: ks) .normal σ := fun _ _ S hat => ⟨S, σ, hat, h⟩

theorem run_loop_end {J : St → Prop} (h : J σ) : Run C Q (.loop J :: ks) .normal σ := h

theorem run_loop {c : Code} (I : Nat → St → Prop) (n : Nat) (h0 : I n σ) (round : ∀ n σ, I n σ → Run C Q (.code c :: .loop (fun σ' => ∃ m, m < n ∧ I m σ') :: ks) .normal σ) :
  Run C Q (.code (.loop c) :: ks) .normal σ := by
 intro a w S hat
 -- the measure is the least number for which the state's description holds
 have key : ∀ a w, (∃ n S σ, At C σ a w S ∧ I n σ) → ∃ n, (∃ S σ, At C σ a w S ∧ I n σ) ∧ ∀ m, (∃ S σ, At C σ a w S ∧ I m σ) → n ≤ m := by
  intro a w h
  obtain ⟨n, hn⟩ := h
  induction n using Nat.strongRecOn with
  | _ n ih =>
   by_cases hlt : ∃ m, m < n ∧ ∃ S σ, At C σ a w S ∧ I m σ
   ·obtain ⟨m, hm, hs⟩ := hlt; exact ih m hm hs
   exact ⟨n, hn, fun m hm => Nat.le_of_not_lt fun hl => hlt ⟨m, hl, hm⟩⟩
 classical
 let μ : Act → World → Nat := fun a w => if h : ∃ n S σ, At C σ a w S ∧ I n σ then (key a w h).choose else 0
 refine wp_loop (fun a w => ∃ n S σ, At C σ a w S ∧ I n σ) μ ⟨n, S, σ, hat, h0⟩ ?_
 intro a w hI
 have hμ := (key a w hI).choose_spec
 obtain ⟨⟨S1, σ1, hat1, hI1⟩, hmin⟩ := hμ
 refine Code.wp_mono ?_ (round _ σ1 hI1 a w S1 hat1)
 intro e a' w' hq
 cases e with
 | normal =>
  obtain ⟨S2, σ2, hat2, m, hm, hI2⟩ := hq
  have hI' : ∃ n S σ, At C σ a' w' S ∧ I n σ := ⟨m, S2, σ2, hat2, hI2⟩
  refine ⟨hI', ?_⟩
  have h1 : μ a' w' = (key a' w' hI').choose := dif_pos hI'
  have h2 : μ a w = (key a w hI).choose := dif_pos hI
  rw [h1, h2]
  exact Nat.lt_of_le_of_lt ((key a' w' hI').choose_spec.2 m ⟨S2, σ2, hat2, hI2⟩) hm
 | exit id => exact hq
 | ret => exact hq
 | panic ch => exact hq
 | goto l => exact hq
 | outgrown => exact hq

theorem At.weaken {σ : St} {a : Act} {w : World} {S : Sit} (h : At C σ a w S) (env : List (Nat × AV))
  (he : ∀ i v, look i env = some v → look i σ.env = some v ∨ v = .any ∧ i < C.nt) : At C { σ with env := env } a w S :=
 ⟨h.w, h.O, h.tk, h.sim, fun i v hv => (he i v hv).elim (h.env i v) fun hq => ⟨a.tmps[i]'(by rw [h.nt]; exact hq.2), by simp [h.nt, hq.2], by cases hq.1; exact .any _⟩,
  h.nt, h.defers, h.ext, h.new, h.bl, h.nd, h.bb, h.h0, h.hl, h.hu, h.hv, h.hf, h.inv⟩

end

end Go.Am

/- The abstract memory logic, third part: what the operations do to an abstract state: those that make no memory. -/
namespace Go.Am
open Go

structure TI where
 desc : TypeDesc
 size : Nat
 bytes : Nat
 zero : List AV
 flds : List (Nat × Nat) := []

def TI.agg (i : TI) : Bool := match i.desc with
 | .struct _ => true
 | .array _ _ => true
 | _ => false

def zval : AV → Value
 | .int k n => .int k n
 | .bool b => .bool b
 | .str s => .string s
 | .nilp => .pointer none
 | .imm _ _ _ _ => .slice none 0 0
 | .nilfn => .nilFunc
 | .nilif => .nilIface
 | _ => undef

def zok : AV → Bool
 | .int _ _ => true
 | .bool _ => true
 | .str _ => true
 | .nilp => true
 | .imm 0 _ true [] => true
 | .nilfn => true
 | .nilif => true
 | _ => false

def FOK (P : Program) (fs : Array Field) : Nat → List (Nat × Nat) → Prop
 | _, [] => True
 | k, p :: r => (∃ fl, fs[k]? = some fl ∧ fl.offset = p.1 ∧ (P.info? fl.type).map (·.size) = some p.2 ∧ 0 < p.2) ∧ FOK P fs (k + 1) r

theorem FOK.at_ {P : Program} {fs : Array Field} : ∀ {l : List (Nat × Nat)} {k : Nat}, FOK P fs k l → ∀ (f : Nat) (p : Nat × Nat), l[f]? = some p →
  ∃ fl, fs[k + f]? = some fl ∧ fl.offset = p.1 ∧ (P.info? fl.type).map (·.size) = some p.2 ∧ 0 < p.2
 | [], _, _, f, p, h => by simp at h
 | q :: r, k, h, 0, p, hp => by simp at hp; subst hp; exact h.1
 | q :: r, k, h, f + 1, p, hp => by
  have := FOK.at_ h.2 f p (by simpa using hp)
  rwa [show k + 1 + f = k + (f + 1) by omega] at this

structure TOK (P : Program) (t : TypeId) (i : TI) : Prop where
 und : P.underlying t = some i.desc
 info : ∃ ti z, P.info? t = some ti ∧ ti.size = i.size ∧ ti.bytes = i.bytes ∧ ti.zero = some z ∧ z.cells = (i.zero.map zval).toArray
 zl : i.zero.length = i.size
 zk : i.zero.all zok = true
 fld : i.flds = [] ∨ ∃ fs, i.desc = .struct fs ∧ FOK P fs 0 i.flds ∧ fs.size = i.flds.length
 pos : 0 < i.size

abbrev TTab := List (Nat × TI)
def GOK (P : Program) (Γ : TTab) : Prop := ∀ t i, look t Γ = some i → TOK P t i

theorem GOK.nil (P : Program) : GOK P [] := fun t i h => by simp [look] at h
theorem GOK.cons {P : Program} {Γ : TTab} {t : Nat} {i : TI} (h : TOK P t i) (k : GOK P Γ) : GOK P ((t, i) :: Γ) := fun t' i' hl => by
 unfold look at hl
 split at hl
 ·rename_i hb
  cases hl
  rw [Nat.eq_of_beq_eq_true hb]
  exact h
 exact k _ _ hl

def avOf : Value → Option AV
 | .int k n => some (.int k n)
 | .bool b => some (.bool b)
 | .string s => some (.str s)
 | .pointer none => some .nilp
 | .slice none 0 0 => some (.imm 0 0 true [])
 | .nilFunc => some .nilfn
 | .nilIface => some .nilif
 | _ => none

def oev (env : List (Nat × AV)) : Operand → Option AV
 | .tmp t => look t env
 | .const v => avOf v
 | .func f => some (.fn (.func f) [] [])
 | .global _ => none

theorem avOf_rep {S : Sit} {v : Value} {x : AV} (h : avOf v = some x) : RepC S x v := by
 unfold avOf at h
 split at h <;> cases h
 ·exact .int _ _
 ·exact .bool _
 ·exact .str _
 ·exact .nilp
 ·exact .imm0 _ _ _ _ _ (fun _ => rfl) (Nat.zero_le _)
 ·exact .nilfn
 exact .nilif

theorem oev_rep {C : Ctx} {σ : St} {a : Act} {w : World} {S : Sit} (hat : At C σ a w S) {x : Operand} {v : AV} (h : oev σ.env x = some v) : Rep S v (a.eval x) := by
 unfold oev at h
 split at h
 ·rename_i t
  obtain ⟨u, hu, hr⟩ := hat.env t v h
  have : a.eval (.tmp t) = u := by simp [Act.eval, hu]
  rw [this]; exact hr
 ·exact .clo (avOf_rep h)
 ·cases h
  exact .clo (.fn _ [] [] #[] #[] rfl rfl (fun j x hx => by simp at hx) (fun j x hx => by simp at hx))
 cases h

theorem rep_int {S : Sit} {k : IntKind} {n : Int} {u : Value} (h : Rep S (.int k n) u) : u = .int k n := by
 cases h with
 | clo h => cases h; rfl
theorem rep_bool {S : Sit} {b : Bool} {u : Value} (h : Rep S (.bool b) u) : u = .bool b := by
 cases h with
 | clo h => cases h; rfl
theorem rep_str {S : Sit} {s : ByteArray} {u : Value} (h : Rep S (.str s) u) : u = .string s := by
 cases h with
 | clo h => cases h; rfl
theorem rep_optr {S : Sit} (hs : SimH S) {x : ID} {i off : Nat} {u : Value} {o : Obj} (hx : S.O x = some o) (h : Rep S (.optr x i off) u) : u = .pointer (some ⟨S.β x, i * o.sz + off, none⟩) := by
 cases h with
 | clo h => cases h
 | optr _ _ _ o' ho => rw [hx] at ho; cases ho; rfl
 | hidp _ _ _ sz h => rw [hs.hid x sz h] at hx; cases hx
theorem rep_osl {S : Sit} {x : ID} {u : Value} (h : Rep S (.osl x) u) : ∃ o c, ∃ cur : Array Value, S.O x = some o ∧ o.box = false ∧ S.w.heap[S.β x]? = some (.cells cur o.ty (0, 0)) ∧ cur.size = c * o.sz ∧
  o.es.length ≤ c ∧ c ≤ maxLen ∧ u = .slice (some ⟨S.β x, 0, none⟩) o.es.length c := by
 cases h with
 | clo h => cases h
 | osl _ o c cur ho hb hw hc hl hm => exact ⟨o, c, cur, ho, hb, hw, hc, hl, hm, rfl⟩
theorem rep_imm {S : Sit} {tok sz : Nat} {full : Bool} {es : List (List AV)} {u : Value} (h : Rep S (.imm tok sz full es) u) : RepC S (.imm tok sz full es) u := by
 cases h with
 | clo h => exact h
theorem rep_cptr {S : Sit} {cs : List AV} {u : Value} (h : Rep S (.cptr cs) u) : RepC S (.cptr cs) u := by
 cases h with
 | clo h => exact h
theorem rep_agg {S : Sit} {cs : List AV} {u : Value} (h : Rep S (.agg cs) u) : ∃ us, u = .agg us ∧ us.size = cs.length ∧ (∀ (j : Nat) (x : AV), cs[j]? = some x → x.d1 = true) ∧ ∀ j x, cs[j]? = some x → Rep S x (us.getD j undef) := by
 cases h with
 | clo h =>
  cases h with
  | agg _ us hl hs h => exact ⟨us, rfl, hl, hs, fun j x hx => .clo (h j x hx)⟩
 | agg _ us hl hs h => exact ⟨us, rfl, hl, hs, h⟩
theorem rep_tup {S : Sit} {cs : List AV} {u : Value} (h : Rep S (.tup cs) u) : ∃ us, u = .tuple us ∧ us.size = cs.length ∧ ∀ j x, cs[j]? = some x → Rep S x (us.getD j undef) := by
 cases h with
 | clo h =>
  cases h with
  | tup _ us hl h => exact ⟨us, rfl, hl, fun j x hx => .clo (h j x hx)⟩
 | tup _ us hl h => exact ⟨us, rfl, hl, h⟩

theorem repc_imm_len {S : Sit} {tok sz : Nat} {full : Bool} {es : List (List AV)} {u : Value} (h : RepC S (.imm tok sz full es) u) : ∃ a c, u = .slice a es.length c := by
 cases h with
 | imm0 _ _ _ a c _ _ => exact ⟨a, c, rfl⟩
 | imm _ _ _ _ b o c _ _ _ _ _ _ _ _ _ _ _ _ => exact ⟨_, c, rfl⟩

def St.put (σ : St) (d : Nat) (v : AV) : St := match σ with
 | ⟨env, l, b, O, tk⟩ => ⟨(d, v) :: env, l, b, O, tk⟩

theorem At.put {C : Ctx} {σ : St} {a : Act} {w : World} {S : Sit} (h : At C σ a w S) {d : Nat} {v : AV} {u : Value} (hd : d < C.nt) (hr : Rep S v u) : At C (σ.put d v) (a.put (some d) u) w S := by
 refine ⟨h.w, h.O, h.tk, h.sim, ?_, by simp [Act.put, h.nt], h.defers, h.ext, h.new, h.bl, h.nd, h.bb, h.h0, h.hl, h.hu, h.hv, h.hf, h.inv⟩
 intro i x hx
 simp only [St.put, look] at hx
 split at hx
 ·rename_i hb
  cases hx
  have := Nat.eq_of_beq_eq_true hb
  subst this
  exact ⟨u, by simp [Act.put, h.nt, hd], hr⟩
 rename_i hb
 have hne : i ≠ d := fun e => by subst e; rw [Nat.beq_refl] at hb; cases hb
 obtain ⟨u', hu, hr'⟩ := h.env i x hx
 exact ⟨u', by simp [Act.put, Ne.symm hne, hu], hr'⟩

def Held (S : Sit) (W : List ID) (w' : World) : Prop := S.w.heap.size ≤ w'.heap.size ∧ ∀ b, b < S.w.heap.size → (∀ x ∈ W, S.β x ≠ b) → w'.heap[b]? = S.w.heap[b]?

def KeepW (S S' : Sit) (W : List ID) : Prop := Held S W S'.w ∧ ∀ x, (S.O x).isSome = true → (S'.O x).isSome = true ∧ (S'.β x = S.β x ∨ S.w.heap.size ≤ S'.β x)

theorem Held.refl (S : Sit) (W : List ID) : Held S W S.w := ⟨Nat.le_refl _, fun _ _ _ => rfl⟩
theorem KeepW.refl (S : Sit) (W : List ID) : KeepW S S W := ⟨.refl S W, fun _ h => ⟨h, .inl rfl⟩⟩
theorem Held.mono {S : Sit} {W W' : List ID} {w : World} (h : Held S W w) (hs : ∀ x ∈ W, x ∈ W') : Held S W' w := ⟨h.1, fun b hb hx => h.2 b hb fun x hm => hx x (hs x hm)⟩
theorem KeepW.mono {S S' : Sit} {W W' : List ID} (h : KeepW S S' W) (hs : ∀ x ∈ W, x ∈ W') : KeepW S S' W' := ⟨h.1.mono hs, h.2⟩
theorem Held.trans {S S' : Sit} {W : List ID} {w : World} (h : KeepW S S' W) (hl : ∀ x ∈ W, (S.O x).isSome = true) (k : Held S' W w) : Held S W w :=
 ⟨Nat.le_trans h.1.1 k.1, fun b hb hx => (k.2 b (Nat.lt_of_lt_of_le hb h.1.1) fun x hm e => (h.2 x (hl x hm)).2.elim (fun q => hx x hm (q ▸ e)) fun q => by omega).trans (h.1.2 b hb hx)⟩

def Step (C : Ctx) (W : List ID) (o : Oper) (σ : St) (v : AV) (σ' : St) : Prop :=
 ∀ a w S, At C σ a w S → ∃ u w' S', ((execOp a.eval o).run C.P w = .ok (.value u) w' ∨ (execOp a.eval o).run C.P w = .ok .skip w' ∧ u = undef) ∧ At C σ' a w' S' ∧ Rep S' v u ∧ KeepW S S' W

theorem Step.mono {C : Ctx} {W W' : List ID} {o : Oper} {σ σ' : St} {v : AV} (h : Step C W o σ v σ') (hs : ∀ x ∈ W, x ∈ W') : Step C W' o σ v σ' :=
 fun a w S hat => let ⟨u, w', S', h1, h2, h3, h4⟩ := h a w S hat; ⟨u, w', S', h1, h2, h3, h4.mono hs⟩

def Pu (C : Ctx) (o : Oper) (σ : St) (v : AV) : Prop := ∀ a w S, At C σ a w S → ∃ u, (∀ w1, (execOp a.eval o).run C.P w1 = .ok (.value u) w1) ∧ Rep S v u
def Rd (C : Ctx) (W : List ID) (o : Oper) (σ : St) (v : AV) : Prop := ∀ a w S, At C σ a w S → (∀ x ∈ W, (S.O x).isSome = true) → ∃ u, (∀ w1, Held S W w1 → (execOp a.eval o).run C.P w1 = .ok (.value u) w1) ∧ Rep S v u

theorem Pu.rd {C : Ctx} {o : Oper} {σ : St} {v : AV} (h : Pu C o σ v) (W : List ID) : Rd C W o σ v := fun a w S hat _ => let ⟨u, h1, h2⟩ := h a w S hat; ⟨u, fun w1 _ => h1 w1, h2⟩
theorem Rd.step {C : Ctx} {o : Oper} {σ : St} {v : AV} (h : Rd C [] o σ v) : Step C [] o σ v σ := fun a w S hat =>
 let ⟨u, h1, h2⟩ := h a w S hat fun _ hm => (by cases hm)
 ⟨u, w, S, .inl (h1 w (hat.w ▸ Held.refl S [])), hat, h2, KeepW.refl S []⟩
theorem Pu.step {C : Ctx} {o : Oper} {σ : St} {v : AV} (h : Pu C o σ v) : Step C [] o σ v σ := (h.rd []).step

theorem run_op {C : Ctx} {Q : AEx → St → Prop} {ks : List AItem} {σ σ' : St} {all : Array Oper} {o : Oper} {rest : List Oper} {v : AV} {d : Nat} {W : List ID} (hg : o.guard = none) (hs : Step C W o σ v σ') (hd : o.dst = some d) (hn : d < C.nt)
  (h : Run C Q (.ops all rest :: ks) .normal (σ'.put d v)) : Run C Q (.ops all (o :: rest) :: ks) .normal σ := by
 intro a w S hat
 refine wpList_plain hg fun K hK => ?_
 obtain ⟨u, w', S', h1, hat', hr, _⟩ := hs a w S hat
 have hk := hK _ _ (h _ _ _ (hat'.put hn hr))
 unfold Oper.wp
 rcases h1 with h1 | ⟨h1, rfl⟩
 ·rw [h1]; simp only [Oper.upon, hd]; exact hk
 rw [h1]; simp only [Oper.upon, hd]; exact hk

theorem run_pu {C : Ctx} {Q : AEx → St → Prop} {ks : List AItem} {σ : St} {all : Array Oper} {o : Oper} {rest : List Oper} {v : AV} {d : Nat} (hg : o.guard = none) (hs : Pu C o σ v) (hd : o.dst = some d) (hn : d < C.nt)
  (h : Run C Q (.ops all rest :: ks) .normal (σ.put d v)) : Run C Q (.ops all (o :: rest) :: ks) .normal σ := run_op hg hs.step hd hn h
theorem run_rd {C : Ctx} {Q : AEx → St → Prop} {ks : List AItem} {σ : St} {all : Array Oper} {o : Oper} {rest : List Oper} {v : AV} {d : Nat} (hg : o.guard = none) (hs : Rd C [] o σ v) (hd : o.dst = some d) (hn : d < C.nt)
  (h : Run C Q (.ops all rest :: ks) .normal (σ.put d v)) : Run C Q (.ops all (o :: rest) :: ks) .normal σ := run_op hg hs.step hd hn h

theorem run_op0 {C : Ctx} {Q : AEx → St → Prop} {ks : List AItem} {σ σ' : St} {all : Array Oper} {o : Oper} {rest : List Oper} {v : AV} {W : List ID} (hg : o.guard = none) (hs : Step C W o σ v σ') (hd : o.dst = none)
  (h : Run C Q (.ops all rest :: ks) .normal σ') : Run C Q (.ops all (o :: rest) :: ks) .normal σ := by
 intro a w S hat
 refine wpList_plain hg fun K hK => ?_
 obtain ⟨u, w', S', h1, hat', hr, _⟩ := hs a w S hat
 have hk := hK _ _ (h _ _ _ hat')
 unfold Oper.wp
 rcases h1 with h1 | ⟨h1, rfl⟩
 ·rw [h1]; simp only [Oper.upon, hd]; exact hk
 rw [h1]; simp only [Oper.upon, hd]; exact hk

end Go.Am

/- The abstract memory logic, fourth part: operations that read alone. -/
namespace Go.Am
open Go

def force : AV → Option AV
 | .int k n => some (.int k n)
 | .bool b => some (.bool b)
 | .str s => some (.str s)
 | .nilp => some .nilp
 | .optr x i o => some (.optr x i o)
 | .cptr cs => some (.cptr cs)
 | .imm a b c d => some (.imm a b c d)
 | .osl x => some (.osl x)
 | .fn f a b => some (.fn f a b)
 | .nilfn => some .nilfn
 | .iface t v => some (.iface t v)
 | .nilif => some .nilif
 | _ => none

theorem force_eq {v x : AV} (h : force v = some x) : x = v := by
 unfold force at h; split at h <;> cases h <;> rfl

def takeF : Nat → List AV → Option (List AV)
 | 0, _ => some []
 | _ + 1, [] => none
 | n + 1, v :: r => match force v with
  | some x => match takeF n r with
   | some xs => some (x :: xs)
   | none => none
  | none => none

theorem takeF_eq : ∀ {n : Nat} {l xs : List AV}, takeF n l = some xs → xs = l.take n ∧ n ≤ l.length
 | 0, l, xs, h => by simp [takeF] at h; subst h; simp
 | n + 1, [], xs, h => by simp [takeF] at h
 | n + 1, v :: r, xs, h => by
  unfold takeF at h
  split at h
  ·rename_i x hx
   split at h
   ·rename_i ys hy
    cases h
    obtain ⟨h1, h2⟩ := takeF_eq hy
    rw [force_eq hx, h1]
    exact ⟨by simp, by simp; omega⟩
   cases h
  cases h

def cellsAt (H : Heap) : AV → Option (List AV)
 | .optr x i off => match H x with
  | some o => match o.es[i]? with
   | some e => some (e.drop off)
   | none => none
  | none => none
 | .cptr cs => some cs
 | _ => none

def aload (Γ : TTab) (H : Heap) (T : TypeId) (p : AV) : Option AV :=
 match look T Γ with
 | some i => match cellsAt H p with
  | some cs => match i.agg with
   | true => match takeF i.size cs with
    | some xs => some (.agg xs)
    | none => none
   | false => match cs with
    | v :: _ => force v
    | [] => none
  | none => none
 | none => none

theorem cellsAt_rep {C : Ctx} {σ : St} {a : Act} {w : World} {S : Sit} (hat : At C σ a w S) {p : AV} {u : Value} {cs : List AV} (hp : Rep S p u) (h : cellsAt (C.heap σ) p = some cs) :
  ∃ b o, u = .pointer (some ⟨b, o, none⟩) ∧ ∀ j x, cs[j]? = some x → x.d1 = true ∧ ∃ v, w.cell? ⟨b, o + j, none⟩ = some v ∧ Rep S x v := by
 unfold cellsAt at h
 split at h
 ·rename_i x i off
  rw [← hat.O] at h
  split at h
  ·rename_i o ho
   have hu := rep_optr hat.sim ho hp
   subst hu
   split at h
   ·rename_i e he
    cases h
    refine ⟨_, _, rfl, fun j y hy => ?_⟩
    obtain ⟨cur, hc, hz, _, hl, hv⟩ := hat.sim.obj x o ho
    rw [List.getElem?_drop] at hy
    obtain ⟨hd, v, hcv, hrv, _⟩ := hv i e (off + j) y he hy
    refine ⟨hd, v, ?_, hrv⟩
    rw [← hat.w]
    simp only [World.cell?, hc, Option.isSome_none, Bool.false_eq_true, if_false]
    rw [show i * o.sz + off + j = i * o.sz + (off + j) by omega]
    exact hcv
   cases h
  cases h
 ·rename_i cs'
  cases h
  have hr := rep_cptr hp
  cases hr with
  | cptr _ b o us hc hs h1 h2 => exact ⟨b, o, rfl, fun j x hj => ⟨hs j x hj, us j, by rw [← hat.w]; exact h1 j x hj, .clo (h2 j x hj)⟩⟩
 cases h

theorem isAgg_run {P : Program} {t : TypeId} {i : TI} (h : TOK P t i) (w : World) : (isAgg t).run P w = .ok i.agg w := by
 unfold isAgg
 rw [Sem.run_bind, run_underlying h.und w]
 unfold TI.agg
 cases i.desc <;> simp

theorem sizeOf_run {P : Program} {t : TypeId} {i : TI} (h : TOK P t i) (w : World) : (sizeOf t).run P w = .ok i.size w := by
 obtain ⟨ti, z, h1, h2, _⟩ := h.info
 simp [sizeOf, typeInfo, h1, h2]

def ldok (W : List ID) : AV → Prop
 | .optr x _ _ => x ∉ W
 | .cptr _ => True
 | _ => False

theorem cellsAt_held {C : Ctx} {σ : St} {a : Act} {w : World} {S : Sit} (hat : At C σ a w S) {W : List ID} (hW : ∀ x ∈ W, (S.O x).isSome = true) {p : AV} {u : Value} {cs : List AV} (hp : Rep S p u) (h : cellsAt (C.heap σ) p = some cs) (hld : ldok W p) :
  ∃ b o, u = .pointer (some ⟨b, o, none⟩) ∧ ∀ j x, cs[j]? = some x → x.d1 = true ∧ ∃ v, (∀ w1, Held S W w1 → w1.cell? ⟨b, o + j, none⟩ = some v) ∧ Rep S x v := by
 unfold cellsAt at h
 split at h
 ·rename_i x i off
  rw [← hat.O] at h
  split at h
  ·rename_i o ho
   have hu := rep_optr hat.sim ho hp
   subst hu
   split at h
   ·rename_i e he
    cases h
    refine ⟨_, _, rfl, fun j y hy => ?_⟩
    obtain ⟨cur, hc, hz, _, hl, hv⟩ := hat.sim.obj x o ho
    rw [List.getElem?_drop] at hy
    obtain ⟨hd, v, hcv, hrv, _⟩ := hv i e (off + j) y he hy
    refine ⟨hd, v, fun w1 hw1 => ?_, hrv⟩
    have hlt : S.β x < S.w.heap.size := (Array.getElem?_eq_some_iff.1 hc).1
    have hh := hw1.2 (S.β x) hlt fun z hz e => hld ((hat.sim.inj z x (hW z hz) (by rw [ho]; rfl) e) ▸ hz)
    simp only [World.cell?, hh, hc, Option.isSome_none, Bool.false_eq_true, if_false]
    rw [show i * o.sz + off + j = i * o.sz + (off + j) by omega]
    exact hcv
   cases h
  cases h
 ·rename_i cs'
  cases h
  have hr := rep_cptr hp
  cases hr with
  | cptr _ b o us hc hs h1 h2 =>
   refine ⟨b, o, rfl, fun j x hj => ⟨hs j x hj, us j, fun w1 hw1 => ?_, .clo (h2 j x hj)⟩⟩
   exact cell_of_eq (hw1.2 b hc.1 fun z hz e => hc.2 ⟨z, hW z hz, e⟩) (h1 j x hj)
 cases h

theorem aload_rd {C : Ctx} {Γ : TTab} (hG : GOK C.P Γ) {σ : St} {W : List ID} {o : Oper} {T : TypeId} {x : Operand} (ho : o.op = .load T x) {p v : AV} (hx : oev σ.env x = some p) (h : aload Γ (C.heap σ) T p = some v) (hld : ldok W p) :
  Rd C W o σ v := by
 intro a w S hat hW
 unfold aload at h
 split at h
 ·rename_i i hi
  have hT := hG T i hi
  split at h
  ·rename_i cs hcs
   obtain ⟨b, off, hu, hc⟩ := cellsAt_held hat hW (oev_rep hat hx) hcs hld
   split at h
   ·rename_i hagg
    split at h
    ·rename_i xs hxs
     cases h
     obtain ⟨rfl, hlen⟩ := takeF_eq hxs
     have hadd : ∀ j, (⟨b, off, none⟩ : Addr).add j = ⟨b, off + j, none⟩ := fun j => by unfold Addr.add; split <;> simp_all
     have hv0 : ∀ j, j < i.size → ∃ v, (∀ w1, Held S W w1 → w1.cell? ⟨b, off + j, none⟩ = some v) := fun j hj => by
      obtain ⟨_, v, hv, _⟩ := hc j (cs[j]'(by omega)) (List.getElem?_eq_getElem (by omega))
      exact ⟨v, hv⟩
     have hS0 : Held S W w := hat.w ▸ Held.refl S W
     refine ⟨.agg ((List.range i.size).map fun j => (w.cell? ⟨b, off + j, none⟩).getD undef).toArray, fun w1 hw1 => ?_, .agg _ _ ?_ ?_ ?_⟩
     ·have hcell : ∀ j, j < i.size → w1.cell? ((⟨b, off, none⟩ : Addr).add j) = some ((w.cell? ⟨b, off + j, none⟩).getD undef) := fun j hj => by
       obtain ⟨v, hv⟩ := hv0 j hj
       rw [hadd, hv w1 hw1, hv w hS0]; rfl
      have hl := run_loadCells (P := C.P) w1 ⟨b, off, none⟩ i.size (fun j => (w.cell? ⟨b, off + j, none⟩).getD undef) hcell
      unfold execOp
      simp only [ho, hu, Instr.loadAt, Instr.sureAddr, loadVar, Sem.run_bind, Sem.run_pure, Result.andThen_ok, isAgg_run hT, hagg, if_true, sizeOf_run hT, hl]
     ·simp; omega
     ·intro j y hy
      rw [List.getElem?_take] at hy
      split at hy
      ·exact (hc j y hy).1
      cases hy
     intro j y hy
     rw [List.getElem?_take] at hy
     split at hy
     ·rename_i hj
      obtain ⟨_, v, hv, hr⟩ := hc j y hy
      simpa [hj, hv w hS0] using hr
     cases hy
    cases h
   rename_i hagg
   split at h
   ·rename_i v' r
    obtain rfl := force_eq h
    obtain ⟨_, u', hu', hr⟩ := hc 0 v rfl
    refine ⟨u', fun w1 hw1 => ?_, hr⟩
    have hu' := hu' w1 hw1
    unfold execOp
    simp only [Nat.add_zero] at hu'
    simp only [ho, hu, Instr.loadAt, Instr.sureAddr, loadVar, Sem.run_bind, Sem.run_pure, Result.andThen_ok, isAgg_run hT, hagg, Bool.false_eq_true, if_false, run_load, hu']
   cases h
  cases h
 cases h

def cmpI (op : BinOp) (a b : Int) : Option AV := match op with
 | .eql => some (.bool (a == b))
 | .neq => some (.bool (a != b))
 | .lss => some (.bool (a < b))
 | .leq => some (.bool (a ≤ b))
 | .gtr => some (.bool (a > b))
 | .geq => some (.bool (a ≥ b))
 | _ => none

def arI (op : BinOp) (k : IntKind) (a b : Int) : Option AV := match op with
 | .add => some (.int k (k.wrap (a + b)))
 | .sub => some (.int k (k.wrap (a - b)))
 | .mul => some (.int k (k.wrap (a * b)))
 | .quo => match decide (b = 0) with
  | false => some (.int k (k.wrap (a.tdiv b)))
  | true => none
 | .rem => match decide (b = 0) with
  | false => some (.int k (a.tmod b))
  | true => none
 | op => cmpI op a b

def cmpS (op : BinOp) (a b : ByteArray) : Option AV := match op with
 | .eql => some (.bool (a.toList == b.toList))
 | .neq => some (.bool !(a.toList == b.toList))
 | .lss => some (.bool (Op.bytesLess a.toList b.toList))
 | _ => none

def abin (op : BinOp) : AV → AV → Option AV
 | .int k a, .int k' b => match decide (k = k') with
  | true => arI op k a b
  | false => none
 | .str a, .str b => cmpS op a b
 | .bool a, .bool b => match op with
  | .eql => some (.bool (a == b))
  | .neq => some (.bool !(a == b))
  | _ => none
 | _, _ => none

def aun (op : UnOp) : AV → Option AV
 | .int k n => match op with
  | .neg => some (.int k (k.wrap (0 - n)))
  | _ => none
 | .bool b => match op with
  | .not => some (.bool !b)
  | _ => none
 | _ => none

def alen : AV → Option AV
 | .str s => some (.int .i64 s.size)
 | .imm _ _ _ es => some (.int .i64 es.length)
 | _ => none

end Go.Am

/- The abstract memory logic, fifth part: the other operations that read alone. -/
namespace Go.Am
open Go

theorem move_step {C : Ctx} {σ : St} {o : Oper} {x : Operand} (ho : o.op = .move x ∨ o.op = .assign x) {v : AV} (hx : oev σ.env x = some v) : Pu C o σ v := by
 refine fun a w S hat => ⟨a.eval x, ?_, oev_rep hat hx⟩
 intro w1
 rcases ho with ho | ho <;> (unfold execOp; simp [ho])

theorem pick_step {C : Ctx} {σ : St} {o : Oper} {c x y : Operand} (ho : o.op = .pick c x y) {b : Bool} {v : AV} (hc : oev σ.env c = some (.bool b)) (hx : oev σ.env (if b then x else y) = some v) : Pu C o σ v := by
 refine fun a w S hat => ⟨a.eval (if b then x else y), ?_, oev_rep hat hx⟩
 have hb := rep_bool (oev_rep hat hc)
 intro w1
 unfold execOp
 cases b <;> simp [ho, hb, asBool]

theorem nilCheck_step {C : Ctx} {σ : St} {o : Oper} {x : Operand} (ho : o.op = .nilCheck x) {v : AV} (hx : oev σ.env x = some v) (hk : ∃ cs, cellsAt (C.heap σ) v = some cs) : Pu C o σ v := by
 obtain ⟨cs, hk⟩ := hk
 refine fun a w S hat => ⟨a.eval x, ?_, oev_rep hat hx⟩
 obtain ⟨b, off, hu, _⟩ := cellsAt_rep hat (oev_rep hat hx) hk
 intro w1
 unfold execOp
 simp [ho, hu]

theorem cmpI_run {op : BinOp} {x y : Int} {v : AV} (h : cmpI op x y = some v) : ∃ b, v = .bool b ∧ ∀ (P : Program) (w : World), (Op.intCmp op x y).run P w = .ok (.bool b) w := by
 unfold cmpI at h
 split at h <;> cases h <;> exact ⟨_, rfl, fun P w => by simp [Op.intCmp]⟩

theorem abin_step {C : Ctx} {σ : St} {o : Oper} {op : BinOp} {T T' : TypeId} {x y : Operand} (ho : o.op = .binOp op T x y T') {p q v : AV} (hx : oev σ.env x = some p) (hy : oev σ.env y = some q) (h : abin op p q = some v)
  (hnb : ∀ b, p ≠ .bool b) : Pu C o σ v := by
 intro a w S hat
 have rx := oev_rep hat hx
 have ry := oev_rep hat hy
 unfold abin at h
 split at h
 ·rename_i k m k' n
  split at h
  ·rename_i hk
   have hk := of_decide_eq_true hk
   subst hk
   have ux := rep_int rx
   have uy := rep_int ry
   unfold arI at h
   unfold execOp
   simp only [ho, ux, uy, eqGuard_at_int]
   split at h
   ·cases h; exact ⟨_, fun w1 => by simp [binOp, Op.intArith], .clo (.int _ _)⟩
   ·cases h; exact ⟨_, fun w1 => by simp [binOp, Op.intArith], .clo (.int _ _)⟩
   ·cases h; exact ⟨_, fun w1 => by simp [binOp, Op.intArith], .clo (.int _ _)⟩
   ·split at h
    ·rename_i hz
     cases h
     have hz := of_decide_eq_false hz
     exact ⟨_, fun w1 => by simp [binOp, Op.intDiv, hz], .clo (.int _ _)⟩
    cases h
   ·split at h
    ·rename_i hz
     cases h
     have hz := of_decide_eq_false hz
     exact ⟨_, fun w1 => by simp [binOp, Op.intDiv, hz], .clo (.int _ _)⟩
    cases h
   obtain ⟨b, rfl, hb⟩ := cmpI_run h
   refine ⟨.bool b, ?_, .clo (.bool _)⟩
   intro w1
   have := hb C.P w1
   unfold cmpI at h
   split at h <;> simp_all [binOp]
  cases h
 ·rename_i s t
  have ux := rep_str rx
  have uy := rep_str ry
  unfold cmpS at h
  unfold execOp
  simp only [ho, ux, uy, eqGuard_at_string]
  split at h <;> cases h <;> exact ⟨_, fun w1 => by simp [binOp, Op.stringOp], .clo (.bool _)⟩
 ·rename_i b c
  exact absurd rfl (hnb b)
 cases h

theorem aun_step {C : Ctx} {σ : St} {o : Oper} {op : UnOp} {T : TypeId} {x : Operand} (ho : o.op = .unOp op T x) {p v : AV} (hx : oev σ.env x = some p) (h : aun op p = some v) : Pu C o σ v := by
 intro a w S hat
 have rx := oev_rep hat hx
 unfold aun at h
 split at h
 ·have ux := rep_int rx
  split at h
  ·cases h
   refine ⟨_, ?_, .clo (.int _ _)⟩
   intro w1
   unfold execOp
   simp [ho, ux, Op.unary, Op.intArith]
  cases h
 ·have ux := rep_bool rx
  split at h
  ·cases h
   refine ⟨_, ?_, .clo (.bool _)⟩
   intro w1
   unfold execOp
   simp [ho, ux, Op.unary]
  cases h
 cases h

def alen' (H : Heap) : AV → Option AV
 | .osl x => match H x with
  | some o => some (.int .i64 o.es.length)
  | none => none
 | v => alen v

theorem alen_step {C : Ctx} {Γ : TTab} (hG : GOK C.P Γ) {σ : St} {o : Oper} {T : TypeId} {x : Operand} (ho : o.op = .call { callee := .builtin .len, args := #[x], argTypes := #[T] }) {p v : AV} (hx : oev σ.env x = some p)
  {i : TI} (hT : look T Γ = some i) (hd : (i.desc = .string ∧ ∃ s, p = .str s) ∨ (∃ e, i.desc = .slice e) ∧ ¬ ∃ s, p = .str s) (h : alen' (C.heap σ) p = some v) : Pu C o σ v := by
 intro a w S hat
 have rx := oev_rep hat hx
 have hU := (hG T i hT).und
 rcases hd with ⟨hd, s, rfl⟩ | ⟨⟨e, hd⟩, hns⟩
 ·have ux := rep_str rx
  cases h
  refine ⟨_, ?_, .clo (.int _ _)⟩
  intro w1
  unfold execOp
  simp [ho, ux, resolve, invoke, builtin, Builtin.len_, run_underlying hU, hd, goInt]
 unfold alen' at h
 split at h
 ·obtain ⟨ob, c, cur, hob, _, _, _, _, _, hu⟩ := rep_osl rx
  rw [← hat.O, hob] at h
  cases h
  refine ⟨_, ?_, .clo (.int _ _)⟩
  intro w1
  unfold execOp
  simp [ho, hu, resolve, invoke, builtin, Builtin.len_, run_underlying hU, hd, goInt]
 unfold alen at h
 split at h
 ·exact absurd ⟨_, rfl⟩ hns
 ·cases h
  obtain ⟨ad, c, hu⟩ := repc_imm_len (rep_imm rx)
  refine ⟨_, ?_, .clo (.int _ _)⟩
  intro w1
  unfold execOp
  simp [ho, hu, resolve, invoke, builtin, Builtin.len_, run_underlying hU, hd, goInt]
 cases h

theorem makeInterface_step {C : Ctx} {Γ : TTab} (hG : GOK C.P Γ) {σ : St} {o : Oper} {T : TypeId} {x : Operand} (ho : o.op = .makeInterface T x) {v : AV} (hx : oev σ.env x = some v)
  {i : TI} (hT : look T Γ = some i) (hd : ∀ m, i.desc ≠ .interface m) (hc : ∀ a w S, At C σ a w S → RepC S v (a.eval x)) : Pu C o σ (.iface T v) := by
 refine fun a w S hat => ⟨.iface T (a.eval x), ?_, .clo (.iface _ _ _ (hc a w S hat))⟩
 have hU := (hG T i hT).und
 intro w1
 unfold execOp
 simp only [ho, Instr.makeInterface, Sem.run_bind, run_underlying hU, Result.andThen_ok]
 cases hdd : i.desc <;> simp_all

def oevs (env : List (Nat × AV)) : List Operand → Option (List AV)
 | [] => some []
 | x :: r => match oev env x with
  | some v => match oevs env r with
   | some vs => some (v :: vs)
   | none => none
  | none => none

theorem oevs_rep {C : Ctx} {σ : St} {a : Act} {w : World} {S : Sit} (hat : At C σ a w S) : ∀ {xs : List Operand} {vs : List AV}, oevs σ.env xs = some vs →
  (xs.map a.eval).length = vs.length ∧ ∀ (j : Nat) (v : AV), vs[j]? = some v → Rep S v ((xs.map a.eval).getD j undef)
 | [], vs, h => by cases h; exact ⟨rfl, fun j v hj => by simp at hj⟩
 | x :: r, vs, h => by
  unfold oevs at h
  split at h
  ·rename_i v hv
   split at h
   ·rename_i vs' hvs
    cases h
    obtain ⟨h1, h2⟩ := oevs_rep hat hvs
    refine ⟨by simpa using h1, fun j y hj => ?_⟩
    cases j with
    | zero => simp at hj; subst hj; simpa using oev_rep hat hv
    | succ j => simpa using h2 j y (by simpa using hj)
   cases h
  cases h

theorem makeFunc_step {C : Ctx} {σ : St} {o : Oper} {f : Fn} {first cap : List Operand} (ho : o.op = .makeFunc f first.toArray cap.toArray) {vs us : List AV} (h1 : oevs σ.env first = some vs) (h2 : oevs σ.env cap = some us) :
  Pu C o σ (.fn f vs us) := by
 refine fun a w S hat => ⟨.func f (first.map a.eval).toArray (cap.map a.eval).toArray, ?_, ?_⟩
 ·intro w1
  unfold execOp
  simp [ho, Instr.makeFunc]
 obtain ⟨l1, r1⟩ := oevs_rep hat h1
 obtain ⟨l2, r2⟩ := oevs_rep hat h2
 exact .fn _ _ _ _ _ (by simpa using l1) (by simpa using l2) (fun j x hj => by simpa using r1 j x hj) (fun j x hj => by simpa using r2 j x hj)

theorem extract_step {C : Ctx} {σ : St} {o : Oper} {x : Operand} {k : Nat} (ho : o.op = .extract x k) {vs : List AV} {v : AV} (hx : oev σ.env x = some (.tup vs)) (hk : vs[k]? = some v) : Pu C o σ v := by
 intro a w S hat
 obtain ⟨us, hu, hl, hr⟩ := rep_tup (oev_rep hat hx)
 have hlt : k < us.size := by rw [hl]; exact (List.getElem?_eq_some_iff.1 hk).1
 refine ⟨us.getD k undef, ?_, hr k v hk⟩
 intro w1
 unfold execOp
 simp [ho, hu, Instr.extract, Array.getD, hlt]

theorem convInt_step {C : Ctx} {Γ : TTab} (hG : GOK C.P Γ) {σ : St} {o : Oper} {T T' : TypeId} {x : Operand} (ho : o.op = .convert T T' x) {k k' : IntKind} {n : Int} (hx : oev σ.env x = some (.int k n))
  {i i' : TI} (hT : look T Γ = some i) (hT' : look T' Γ = some i') (hd : i'.desc = .int k') : Pu C o σ (.int k' (k'.wrap n)) := by
 refine fun a w S hat => ⟨.int k' (k'.wrap n), ?_, .clo (.int _ _)⟩
 have hU := (hG T i hT).und
 have hU' := (hG T' i' hT').und
 have hu := rep_int (oev_rep hat hx)
 intro w1
 unfold execOp
 simp [ho, hu, convert, run_underlying hU, run_underlying hU', hd, Conv.intToInt]

end Go.Am

/- The abstract memory logic, sixth part: fields, elements, structs. -/
namespace Go.Am
open Go

def afield (f : Nat × Nat) : AV → Option AV
 | .optr x i off => some (.optr x i (off + f.1))
 | .cptr cs => some (.cptr (cs.drop f.1))
 | _ => none

theorem add_off (b o n : Nat) : (⟨b, o, none⟩ : Addr).add n = ⟨b, o + n, none⟩ := by
 unfold Addr.add; split <;> simp_all

theorem rep_field {S : Sit} {f : Nat × Nat} {p v : AV} {u : Value} (hp : Rep S p u) (h : afield f p = some v) : ∃ b o, u = .pointer (some ⟨b, o, none⟩) ∧ Rep S v (.pointer (some ⟨b, o + f.1, none⟩)) := by
 unfold afield at h
 split at h
 ·rename_i x i off
  cases h
  cases hp with
  | clo h => cases h
  | optr _ _ _ o ho =>
   refine ⟨_, _, rfl, ?_⟩
   rw [Nat.add_assoc]
   exact .optr x i (off + f.1) o ho
  | hidp _ _ _ sz h => exact ⟨_, _, rfl, by rw [Nat.add_assoc]; exact .hidp x i (off + f.1) sz h⟩
 ·rename_i cs
  cases h
  have hr := rep_cptr hp
  cases hr with
  | cptr _ b o us hc hs h1 h2 =>
   refine ⟨b, o, rfl, .clo (.cptr _ b (o + f.1) (fun j => us (f.1 + j)) hc ?_ ?_ ?_)⟩
   ·intro j x hj; rw [List.getElem?_drop] at hj; exact hs _ x hj
   ·intro j x hj; rw [List.getElem?_drop] at hj; rw [Nat.add_assoc]; exact h1 _ x hj
   intro j x hj; rw [List.getElem?_drop] at hj; exact h2 _ x hj
 cases h

theorem fieldAddr_step {C : Ctx} {Γ : TTab} (hG : GOK C.P Γ) {σ : St} {o : Oper} {T : TypeId} {x : Operand} {k : Nat} (ho : o.op = .fieldAddr T x k) {p v : AV} (hx : oev σ.env x = some p)
  {i : TI} (hT : look T Γ = some i) {f : Nat × Nat} (hf : i.flds[k]? = some f) (h : afield f p = some v) : Pu C o σ v := by
 intro a w S hat
 obtain ⟨b, off, hu, hr⟩ := rep_field (oev_rep hat hx) h
 refine ⟨_, ?_, hr⟩
 have hK := hG T i hT
 rcases hK.fld with h0 | ⟨fs, hd, hfo, _⟩
 ·rw [h0] at hf; simp at hf
 obtain ⟨fl, hfl, hoff, hsz, hpos⟩ := hfo.at_ k f hf
 rw [Nat.zero_add] at hfl
 obtain ⟨ti, hti, hsz'⟩ := Option.map_eq_some_iff.1 hsz
 intro w1
 unfold execOp
 simp only [ho, hu, Instr.fieldAt, Sem.run_bind, run_underlying hK.und, Result.andThen_ok, hd]
 have hne : ¬ ti.size = 0 := by omega
 simp [hfl, Instr.sureAddr, fieldPlace, sizeOf, typeInfo, hti, hne, hoff, add_off]

def aindex (H : Heap) (n : Nat) : AV → Option AV
 | .imm _ _ _ es => match es[n]? with
  | some e => some (.cptr e)
  | none => none
 | .osl x => match H x with
  | some o => match decide (n < o.es.length) with
   | true => some (.optr x n 0)
   | false => none
  | none => none
 | _ => none

theorem indexAddr_step {C : Ctx} {Γ : TTab} (hG : GOK C.P Γ) {σ : St} {o : Oper} {T : TypeId} {x y : Operand} (ho : o.op = .indexAddr T x y) {p v : AV} {k : IntKind} {n : Nat} (hx : oev σ.env x = some p)
  (hy : oev σ.env y = some (.int k n)) {i j : TI} {e : TypeId} (hT : look T Γ = some i) (hd : i.desc = .slice e) (he : look e Γ = some j)
  (hsz : match p with
   | .imm _ sz _ _ => sz = j.size
   | .osl z => ∀ ob, C.heap σ z = some ob → ob.sz = j.size
   | _ => True) (h : aindex (C.heap σ) n p = some v) : Pu C o σ v := by
 intro a w S hat
 have rx := oev_rep hat hx
 have uy := rep_int (oev_rep hat hy)
 have hU := (hG T i hT).und
 rw [hd] at hU
 have hel : C.P.elem T = e := by simp [Program.elem, hU]
 have hU' : C.P.underlying T = some (.slice (C.P.elem T)) := by rw [hel]; exact hU
 unfold aindex at h
 split at h
 ·rename_i tok sz full es
  split at h
  ·rename_i c hc
   cases h
   have hr := rep_imm rx
   have hlt := (List.getElem?_eq_some_iff.1 hc).1
   generalize hgu : a.eval x = u at hr
   cases hr with
   | imm0 => simp at hc
   | imm _ _ _ _ b off cap us hne hcon hl hm hf ht h0 hsz' hs h1 h2 =>
    simp only at hsz
    refine ⟨.pointer (some ⟨b, off + n * sz, none⟩), ?_, .clo (.cptr c b (off + n * sz) (us n) hcon (fun j x hj => hs n c j x hc hj) (fun j x hj => ?_) (fun j x hj => h2 n c j x hc hj))⟩
    ·intro w1
     unfold execOp
     simp only [ho, hgu, uy, Sem.run_bind, run_indexAt_slice w1 T _ _ _ _ _ hU', hel, sizeOf_run (hG e j he)]
     rw [if_pos ⟨by omega, by omega⟩]
     simp [add_off, hsz]
    rw [Nat.add_assoc]; exact h1 n c j x hc hj
  cases h
 ·rename_i z
  obtain ⟨ob, c, cur, hob, hb, hw, hcs, hl, hm, hu⟩ := rep_osl rx
  rw [← hat.O, hob] at h
  simp only at h
  split at h
  ·rename_i hlt
   cases h
   have hlt := of_decide_eq_true hlt
   have hz : ob.sz = j.size := hsz ob (by rw [← hat.O]; exact hob)
   refine ⟨_, ?_, .optr z n 0 ob hob⟩
   intro w1
   unfold execOp
   simp only [ho, hu, uy, Sem.run_bind, run_indexAt_slice w1 T _ _ _ _ _ hU', hel, sizeOf_run (hG e j he)]
   rw [if_pos ⟨by omega, by omega⟩]
   simp [add_off, hz]
  cases h
 cases h

def setF : Nat → List AV → List AV → Option (List AV)
 | 0, [], l => some l
 | 0, _ :: _, [] => none
 | 0, c :: cs, _ :: l => match force c with
  | some x => match setF 0 cs l with
   | some r => some (x :: r)
   | none => none
  | none => none
 | _ + 1, _, [] => none
 | n + 1, cs, x :: l => match setF n cs l with
  | some r => some (x :: r)
  | none => none

theorem setF_spec : ∀ {n : Nat} {cs l r : List AV}, setF n cs l = some r → r.length = l.length ∧ n + cs.length ≤ l.length ∧ ∀ j : Nat, r[j]? = if n ≤ j ∧ j < n + cs.length then cs[j - n]? else l[j]?
 | 0, [], l, r, h => by
  simp [setF] at h; subst h
  refine ⟨rfl, by simp, fun j => ?_⟩
  rw [if_neg (by simp)]
 | 0, c :: cs, [], r, h => by simp [setF] at h
 | 0, c :: cs, x :: l, r, h => by
  unfold setF at h
  split at h
  ·rename_i y hy
   split at h
   ·rename_i r' hr'
    cases h
    obtain ⟨h1, h2, h3⟩ := setF_spec hr'
    rw [force_eq hy]
    refine ⟨by simp [h1], by simp at h2 ⊢; omega, fun j => ?_⟩
    cases j with
    | zero => simp
    | succ j =>
     have := h3 j
     simp only [List.getElem?_cons_succ, this, List.length_cons, Nat.zero_add, Nat.zero_le, true_and, Nat.sub_zero]
     by_cases hj : j < cs.length <;> simp [hj]
   cases h
  cases h
 | n + 1, cs, [], r, h => by simp [setF] at h
 | n + 1, cs, x :: l, r, h => by
  unfold setF at h
  split at h
  ·rename_i r' hr'
   cases h
   obtain ⟨h1, h2, h3⟩ := setF_spec hr'
   refine ⟨by simp [h1], by simp; omega, fun j => ?_⟩
   cases j with
   | zero => simp
   | succ j =>
    have := h3 j
    simp only [List.getElem?_cons_succ, this]
    by_cases hj : n ≤ j ∧ j < n + cs.length
    ·rw [if_pos hj, if_pos (by omega), show j + 1 - (n + 1) = j - n by omega]
    rw [if_neg hj, if_neg (by omega)]
  cases h

def cellsOf : AV → Option (List AV)
 | .agg cs => some cs
 | v => match force v with
  | some x => some [x]
  | none => none

theorem cellsOf_rep {S : Sit} {v : AV} {u : Value} {cs : List AV} (hr : Rep S v u) (h : cellsOf v = some cs) : u.cells.size = cs.length ∧ (∀ j x, cs[j]? = some x → Rep S x (u.cells.getD j undef)) := by
 unfold cellsOf at h
 split at h
 ·cases h
  obtain ⟨us, rfl, hl, _, h⟩ := rep_agg hr
  exact ⟨by simpa [Value.cells] using hl, fun j x hx => by simpa [Value.cells] using h j x hx⟩
 rename_i hna
 split at h
 ·rename_i x hx
  cases h
  have hx := force_eq hx
  subst hx
  have hc : u.cells = #[u] := by
   cases hr with
   | any => simp [force] at hx
   | jnk => simp [force] at hx
   | clo h => cases h <;> first | rfl | (exact absurd rfl (hna _))
   | optr => rfl
   | hidp => rfl
   | osl => rfl
   | fn => rfl
   | agg cs _ _ _ _ => exact absurd rfl (hna cs)
   | tup => simp [force] at hx
  rw [hc]
  refine ⟨rfl, fun j y hy => ?_⟩
  cases j with
  | zero => simp at hy; subst hy; simpa using hr
  | succ j => simp at hy
 cases h

end Go.Am

/- The abstract memory logic, seventh part: how a state moves when memory is made or written. -/
namespace Go.Am
open Go

inductive Occ (x : ID) : AV → Prop
 | optr (i off) : Occ x (.optr x i off)
 | osl : Occ x (.osl x)
 | fn1 (f a b) (j : Nat) (v) (h : a[j]? = some v) (k : Occ x v) : Occ x (.fn f a b)
 | fn2 (f a b) (j : Nat) (v) (h : b[j]? = some v) (k : Occ x v) : Occ x (.fn f a b)
 | agg (cs) (j : Nat) (v) (h : cs[j]? = some v) (k : Occ x v) : Occ x (.agg cs)
 | tup (cs) (j : Nat) (v) (h : cs[j]? = some v) (k : Occ x v) : Occ x (.tup cs)

structure Mov (S S' : Sit) (bad : ID → Prop) : Prop extends Le S S' where
 keep : ∀ x o, S.O x = some o → ¬ bad x → ∃ o', S'.O x = some o' ∧ o'.ty = o.ty ∧ o'.sz = o.sz ∧ o'.box = o.box ∧ S'.β x = S.β x ∧ o'.es.length = o.es.length ∧
  ∀ cur : Array Value, S.w.heap[S.β x]? = some (.cells cur o.ty (0, 0)) → ∃ cur' : Array Value, S'.w.heap[S.β x]? = some (.cells cur' o.ty (0, 0)) ∧ cur'.size = cur.size
 hid : ∀ x sz, S.hid x = some sz → S'.hid x = some sz ∧ S'.β x = S.β x

theorem Rep.mov {S S' : Sit} {bad : ID → Prop} (hm : Mov S S' bad) {v : AV} {u : Value} (h : Rep S v u) (hf : ∀ x, bad x → ¬ Occ x v) : Rep S' v u := by
 induction h with
 | any u => exact .any u
 | jnk u h => exact .jnk u h
 | clo h => exact .clo (h.le hm.toLe)
 | optr x i off o ho =>
  obtain ⟨o', h', _, hz, _, hb, _⟩ := hm.keep x o ho (fun hb => hf x hb (.optr _ _))
  rw [← hb, ← hz]
  exact .optr x i off o' h'
 | hidp x i off sz h => rw [← (hm.hid x sz h).2]; exact .hidp x i off sz (hm.hid x sz h).1
 | osl x o c cur ho hb hw hc hl hm' =>
  obtain ⟨o', h', ht, hz, hb', hbe, hl', hcur⟩ := hm.keep x o ho (fun hb => hf x hb .osl)
  obtain ⟨cur', hw', hs'⟩ := hcur cur hw
  rw [← hbe, ← hl']
  exact .osl x o' c cur' h' (hb'.trans hb) (by rw [hbe, ht]; exact hw') (by rw [hs', hz]; exact hc) (by omega) hm'
 | fn f first cap us1 us2 l1 l2 h1 h2 ih1 ih2 =>
  exact .fn f first cap us1 us2 l1 l2 (fun j x hj => ih1 j x hj fun y hy ho => hf y hy (.fn1 _ _ _ j x hj ho)) (fun j x hj => ih2 j x hj fun y hy ho => hf y hy (.fn2 _ _ _ j x hj ho))
 | agg cs us hl hs h ih => exact .agg cs us hl hs fun j x hj => ih j x hj fun y hy ho => hf y hy (.agg _ j x hj ho)
 | tup cs us hl h ih => exact .tup cs us hl fun j x hj => ih j x hj fun y hy ho => hf y hy (.tup _ j x hj ho)

theorem Rep.mov0 {S S' : Sit} (hm : Mov S S' (fun _ => False)) {v : AV} {u : Value} (h : Rep S v u) : Rep S' v u := h.mov hm fun _ h => h.elim

theorem Mov.refl (S : Sit) : Mov S S (fun _ => False) := ⟨Le.refl S, fun x o h _ => ⟨o, h, rfl, rfl, rfl, rfl, rfl, fun cur hc => ⟨cur, hc, rfl⟩⟩, fun _ _ h => ⟨h, rfl⟩⟩

theorem SimH.lt {S : Sit} (h : SimH S) {x : ID} {o : Obj} (hx : S.O x = some o) : S.β x < S.w.heap.size := by
 obtain ⟨cur, hc, _⟩ := h.obj x o hx
 exact (Array.getElem?_eq_some_iff.1 hc).1

theorem Ext.own {A B B' : Sit} (h : Ext A B) (hO : B'.O = B.O) (hβ : B'.β = B.β) (hh' : B'.hid = B.hid) (hB : B'.B0 = B.B0) (htk : B.tk ≤ B'.tk) (hτ : ∀ t, t < B.tk → B'.τ t = B.τ t)
  (hos : B'.w.os = B.w.os) (htp : B'.w.tape = B.w.tape) (hou : B'.w.output = B.w.output) (hsz : B.w.heap.size ≤ B'.w.heap.size)
  (hA : ∀ x o, A.O x = some o → A.β x < A.w.heap.size) (hh : ∀ b, b < A.w.heap.size → B'.w.heap[b]? = B.w.heap[b]?) (hfr : ∀ t, B.tk ≤ t → t < B'.tk → A.w.heap.size ≤ B'.τ t) (hfz : B'.fz = B.fz := by rfl) : Ext A B' := by
 refine ⟨⟨Nat.le_trans h.size hsz, hos.trans h.os, htp.trans h.tape, hou.trans h.output, hB.trans h.B0, Nat.le_trans h.tk htk, fun t ht => (hτ t (Nat.lt_of_lt_of_le ht h.tk)).trans (h.tau t ht), fun b hb => ?_⟩, fun x o hx => ?_, fun x hx => by rw [hO]; exact h.non x hx, fun x z hx => by rw [hh', hβ]; exact h.hid x z hx, hh'.trans h.hidE, hfz.trans h.fzE, fun t h1 h2 => ?_⟩
 ·obtain ⟨h1, h2⟩ := h.con b hb
  refine ⟨⟨Nat.lt_of_lt_of_le h1.1 hsz, fun ⟨x, hx, hxb⟩ => h1.2 ⟨x, by rw [← hO]; exact hx, by rw [← hβ]; exact hxb⟩⟩, (hh b hb.1).trans h2⟩
 ·obtain ⟨o', h1, h2, h3, h4, h5, h6⟩ := h.obj x o hx
  refine ⟨o', by rw [hO]; exact h1, h2, h3, h4, by rw [hβ]; exact h5, fun hb => ⟨(h6 hb).1, ?_⟩⟩
  rw [hh _ (hA x o hx)]
  exact (h6 hb).2
 by_cases hb : t < B.tk
 ·rw [hτ t hb]; exact h.fresh t h1 hb
 exact hfr t (by omega) h2

theorem ExtT.own {T : Nat → Prop} {A B B' : Sit} (h : ExtT T A B) (hO : B'.O = B.O) (hβ : B'.β = B.β) (hh' : B'.hid = B.hid) (hB : B'.B0 = B.B0) (htk : B.tk ≤ B'.tk) (hτ : ∀ t, t < B.tk → B'.τ t = B.τ t)
  (hos : B'.w.os = B.w.os) (htp : B'.w.tape = B.w.tape) (hou : B'.w.output = B.w.output) (hsz : B.w.heap.size ≤ B'.w.heap.size)
  (hA : ∀ x o, A.O x = some o → A.β x < A.w.heap.size) (hh : ∀ b, b < A.w.heap.size → B'.w.heap[b]? = B.w.heap[b]?) (hfr : ∀ t, B.tk ≤ t → t < B'.tk → A.w.heap.size ≤ B'.τ t) (hfz : B'.fz = B.fz := by rfl) : ExtT T A B' := by
 obtain ⟨w', h1, h2⟩ := h
 exact ⟨w', h1, h2.own hO hβ hh' hB htk hτ hos htp hou hsz (fun x o hx => by show A.β x < w'.heap.size; rw [h1.size]; exact hA x o hx) (fun b hb => hh b (by rw [← h1.size]; exact hb)) (fun t a b => by show w'.heap.size ≤ _; rw [h1.size]; exact hfr t a b) hfz⟩

theorem At.adopt {C : Ctx} {σ : St} {a : Act} {w : World} {S : Sit} (h : At C σ a w S) {d : Nat} (hd : look d σ.l = none) (o : Obj) (cur : Array Value)
  (hsz : o.es.length * o.sz ≤ cur.size) (hbox : o.box = true → o.es.length = 1 ∧ cur.size = o.sz) (hes : ∀ e ∈ o.es, e.length = o.sz)
  (hc : ∀ (i : Nat) (e : List AV) (j : Nat) (v : AV), o.es[i]? = some e → e[j]? = some v → v.d1 = true ∧ ∃ u, cur[i * o.sz + j]? = some u ∧ Rep S v u ∧ (o.box = false → RepC S v u))
  (w' : World) (g : Nat) (hg : S.w.heap.size ≤ g) (hnew : w'.heap[g]? = some (.cells cur o.ty (0, 0))) (hold : ∀ b, b < S.w.heap.size → w'.heap[b]? = S.w.heap[b]?) (hsize : S.w.heap.size ≤ w'.heap.size)
  (hos : w'.os = S.w.os) (htp : w'.tape = S.w.tape) (hou : w'.output = S.w.output) :
  ∃ S', At C ⟨σ.env, (d, o) :: σ.l, σ.b, σ.O, σ.tk⟩ a w' S' ∧ Mov S S' (fun _ => False) ∧ S'.β (.loc d) = g ∧ S'.O (.loc d) = some o := by
 have hwS := h.w
 subst hwS
 let σ' : St := ⟨σ.env, (d, o) :: σ.l, σ.b, σ.O, σ.tk⟩
 let S' : Sit := { S with w := w', β := fun x => if x = .loc d then g else S.β x, O := C.heap σ' }
 have hOd : S'.O (.loc d) = some o := by
  show look d ((d, o) :: σ.l) = some o
  simp [look]
 have hOn : ∀ x, x ≠ .loc d → S'.O x = S.O x := by
  intro x hx
  rw [h.O]
  cases x with
  | loc i =>
   have hne : i ≠ d := fun e => hx (by rw [e])
   show look i ((d, o) :: σ.l) = look i σ.l
   have : Nat.beq i d = false := by rw [← Bool.not_eq_true]; intro hh; exact hne (Nat.eq_of_beq_eq_true hh)
   simp only [look, this]
  | bor i => rfl
  | up x => rfl
 have hSd : S.O (.loc d) = none := by rw [h.O]; exact hd
 have hβn : ∀ x, x ≠ .loc d → S'.β x = S.β x := fun x hx => if_neg hx
 have hβd : S'.β (.loc d) = g := if_pos rfl
 have hlive : ∀ b, b < S.w.heap.size → S'.live b → S.live b := by
  rintro b hb ⟨x, hx, rfl⟩
  by_cases hxd : x = .loc d
  ·subst hxd; rw [hβd] at hb; omega
  exact ⟨x, by rw [← hOn x hxd]; exact hx, (hβn x hxd).symm⟩
 have hle : Le S S' := ⟨hsize, hos, htp, hou, rfl, Nat.le_refl _, fun _ _ => rfl, fun b hb => ⟨⟨Nat.lt_of_lt_of_le hb.1 hsize, fun hl => hb.2 (hlive b hb.1 hl)⟩, hold b hb.1⟩⟩
 have hmov : Mov S S' (fun _ => False) := ⟨hle, fun x ob hx _ => by
  have hxd : x ≠ .loc d := fun e => by rw [e, hSd] at hx; cases hx
  refine ⟨ob, by rw [hOn x hxd]; exact hx, rfl, rfl, rfl, hβn x hxd, rfl, fun c hcur => ⟨c, ?_, rfl⟩⟩
  rw [show S'.w = w' from rfl, hold _ (h.sim.lt hx)]; exact hcur, fun x z hx => ⟨hx, hβn x fun e => by subst e; rw [h.hl d] at hx; cases hx⟩⟩
 refine ⟨S', ⟨rfl, rfl, h.tk, ?_, fun i v hv => ?_, h.nt, h.defers, ?_, fun i hi => ?_, h.bl, h.nd, fun i x hx => ?_, h.h0, h.hl, h.hu, h.hv, h.hf, h.inv⟩, hmov, hβd, hOd⟩
 ·refine ⟨fun x ob hx => ?_, fun x y hx hy hxy => ?_, fun x hx => ?_, fun t h1 h2 => ?_, h.sim.tinj, Nat.le_trans h.sim.b0 hsize, fun x z hx => by rw [hOn x fun e => by subst e; rw [show S'.hid = S.hid from rfl, h.hl d] at hx; cases hx]; exact h.sim.hid x z hx, h.sim.tk2⟩
  ·by_cases hxd : x = .loc d
   ·subst hxd
    rw [hOd] at hx
    cases hx
    rw [hβd]
    exact ⟨cur, hnew, hsz, hbox, hes, fun i e j v hi hj => let ⟨h1, u, h2, h3, h4⟩ := hc i e j v hi hj; ⟨h1, u, h2, h3.mov0 hmov, fun hb => (h4 hb).le hle⟩⟩
   rw [hOn x hxd] at hx
   obtain ⟨cu, h1, h2, h3, h4, h5⟩ := h.sim.obj x ob hx
   rw [hβn x hxd]
   refine ⟨cu, by rw [show S'.w = w' from rfl, hold _ (h.sim.lt hx)]; exact h1, h2, h3, h4, fun i e j v hi hj => let ⟨q1, u, q2, q3, q4⟩ := h5 i e j v hi hj; ⟨q1, u, q2, q3.mov0 hmov, fun hb => (q4 hb).le hle⟩⟩
  ·by_cases hxd : x = .loc d
   ·by_cases hyd : y = .loc d
    ·rw [hxd, hyd]
    subst hxd
    rw [hβd, hβn y hyd] at hxy
    rw [hOn y hyd] at hy
    obtain ⟨oy, hoy⟩ := Option.isSome_iff_exists.1 hy
    have := h.sim.lt hoy
    omega
   by_cases hyd : y = .loc d
   ·subst hyd
    rw [hβd, hβn x hxd] at hxy
    rw [hOn x hxd] at hx
    obtain ⟨ox, hox⟩ := Option.isSome_iff_exists.1 hx
    have := h.sim.lt hox
    omega
   rw [hβn x hxd, hβn y hyd] at hxy
   exact h.sim.inj x y (by rw [← hOn x hxd]; exact hx) (by rw [← hOn y hyd]; exact hy) hxy
  ·by_cases hxd : x = .loc d
   ·subst hxd; rw [hβd]; exact Nat.le_trans h.sim.b0 hg
   rw [hβn x hxd]; exact h.sim.base x (by rw [← hOn x hxd]; exact hx)
  obtain ⟨q1, q2, q3⟩ := h.sim.tok t h1 h2
  refine ⟨Nat.lt_of_lt_of_le q1 hsize, fun hl => q2 (hlive _ q1 hl), q3⟩
 ·obtain ⟨u, hu, hr⟩ := h.env i v hv
  exact ⟨u, hu, hr.mov0 hmov⟩
 ·exact h.ext.own rfl (funext fun x => hβn (.up x) (fun e => by cases e)) rfl rfl (Nat.le_refl _) (fun _ _ => rfl) hos htp hou hle.size (fun x o hx => h.h0.lt hx)
   (fun b hb => hold b (Nat.lt_of_lt_of_le hb h.ext.size)) (fun t h1 h2 => absurd h1 (Nat.not_le_of_lt h2))
 ·by_cases hid : i = d
  ·subst hid; rw [hβd]; exact Nat.le_trans h.ext.size hg
  rw [hβn (.loc i) (fun e => hid (by cases e; rfl))]
  refine h.new i ?_
  have : Nat.beq i d = false := by rw [← Bool.not_eq_true]; intro hh; exact hid (Nat.eq_of_beq_eq_true hh)
  simpa only [look, this] using hi
 rw [hβn (.bor i) (fun e => by cases e), hβn (.up x) (fun e => by cases e)]
 exact h.bb i x hx

theorem At.add {C : Ctx} {σ : St} {a : Act} {w : World} {S : Sit} (h : At C σ a w S) {d : Nat} (hd : look d σ.l = none) (o : Obj) (cur : Array Value)
  (hsz : o.es.length * o.sz ≤ cur.size) (hbox : o.box = true → o.es.length = 1 ∧ cur.size = o.sz) (hes : ∀ e ∈ o.es, e.length = o.sz)
  (hc : ∀ (i : Nat) (e : List AV) (j : Nat) (v : AV), o.es[i]? = some e → e[j]? = some v → v.d1 = true ∧ ∃ u, cur[i * o.sz + j]? = some u ∧ Rep S v u ∧ (o.box = false → RepC S v u))
  (w' : World) (hw' : w' = (w.drew.alloc (.cells cur o.ty)) ∨ w' = w.alloc (.cells cur o.ty)) :
  ∃ S', At C ⟨σ.env, (d, o) :: σ.l, σ.b, σ.O, σ.tk⟩ a w' S' ∧ Mov S S' (fun _ => False) ∧ S'.β (.loc d) = w.heap.size ∧ S'.O (.loc d) = some o := by
 have hwS := h.w
 subst hwS
 have hnew : w'.heap[S.w.heap.size]? = some (.cells cur o.ty (0, 0)) := by
  rcases hw' with rfl | rfl
  ·exact heap_alloc_new S.w.drew _
  exact heap_alloc_new S.w _
 have hold : ∀ b, b < S.w.heap.size → w'.heap[b]? = S.w.heap[b]? := by
  intro b hb
  rcases hw' with rfl | rfl
  ·exact heap_alloc_old S.w.drew _ hb
  exact heap_alloc_old S.w _ hb
 have hsize : S.w.heap.size ≤ w'.heap.size := by rcases hw' with rfl | rfl <;> simp
 have hos : w'.os = S.w.os := by rcases hw' with rfl | rfl <;> rfl
 have htp : w'.tape = S.w.tape := by rcases hw' with rfl | rfl <;> rfl
 have hou : w'.output = S.w.output := by rcases hw' with rfl | rfl <;> rfl
 exact h.adopt hd o cur hsz hbox hes hc w' S.w.heap.size (Nat.le_refl _) hnew hold hsize hos htp hou

theorem keep_mov {S S' : Sit} (hmov : Mov S S' (fun _ => False)) {W : List ID} (hh : ∀ b, b < S.w.heap.size → (∀ x ∈ W, S.β x ≠ b) → S'.w.heap[b]? = S.w.heap[b]?) : KeepW S S' W :=
 ⟨⟨hmov.size, hh⟩, fun x hx => by
  obtain ⟨o, ho⟩ := Option.isSome_iff_exists.1 hx
  obtain ⟨o', h1, _, _, _, h2, _⟩ := hmov.keep x o ho (fun h => h)
  exact ⟨by rw [h1]; rfl, .inl h2⟩⟩
theorem keep_alloc {S S' : Sit} (hmov : Mov S S' (fun _ => False)) {W : List ID} {c : Go.Obj} (hw : S'.w = S.w.alloc c ∨ S'.w = S.w.drew.alloc c) : KeepW S S' W :=
 keep_mov hmov fun b hb _ => by
  rcases hw with hw | hw <;> rw [hw]
  ·exact heap_alloc_old S.w _ hb
  exact heap_alloc_old S.w.drew _ hb
theorem keep_row {S S' : Sit} (hmov : Mov S S' (fun _ => False)) {x : ID} {cur : Array Value} (hw : S'.w = S.w.setRow (S.β x) cur) : KeepW S S' [x] :=
 keep_mov hmov fun b _ hx => by rw [hw]; exact setRow_other S.w _ b cur fun e => hx x (List.mem_singleton.2 rfl) e.symm

end Go.Am

/- The abstract memory logic, eighth part: writing into an object. -/
namespace Go.Am
open Go

theorem Sit.set {S : Sit} (sim : SimH S) {x : ID} {o : Obj} (hx : S.O x = some o) (o' : Obj) (ht : o'.ty = o.ty) (hz : o'.sz = o.sz) (hb : o'.box = o.box) (hl : o'.es.length = o.es.length)
  (cur cur' : Array Value) (hcur : S.w.heap[S.β x]? = some (.cells cur o.ty (0, 0))) (hs : cur'.size = cur.size) (hes : ∀ e ∈ o'.es, e.length = o'.sz)
  (hc : ∀ (i : Nat) (e : List AV) (j : Nat) (v : AV), o'.es[i]? = some e → e[j]? = some v → v.d1 = true ∧ ∃ u, cur'[i * o'.sz + j]? = some u ∧ Rep S v u ∧ (o'.box = false → RepC S v u))
  (S' : Sit) (hS' : S' = { S with w := S.w.setRow (S.β x) cur', O := fun z => if z = x then some o' else S.O z }) :
  SimH S' ∧ Mov S S' (fun _ => False) ∧ S'.w.heap[S.β x]? = some (.cells cur' o.ty (0, 0)) := by
 subst hS'
 have hnew : (S.w.setRow (S.β x) cur').heap[S.β x]? = some (.cells cur' o.ty (0, 0)) := setRow_heap S.w _ cur cur' _ _ hcur
 have hold : ∀ b, b ≠ S.β x → (S.w.setRow (S.β x) cur').heap[b]? = S.w.heap[b]? := fun b hb => setRow_other S.w _ b cur' hb
 have hlive : ∀ b, Sit.live { S with w := S.w.setRow (S.β x) cur', O := fun z => if z = x then some o' else S.O z } b ↔ S.live b := by
  intro b
  constructor
  ·rintro ⟨y, hy, rfl⟩
   by_cases hyx : y = x
   ·subst hyx; exact ⟨y, by rw [hx]; rfl, rfl⟩
   exact ⟨y, by simpa only [if_neg hyx] using hy, rfl⟩
  rintro ⟨y, hy, rfl⟩
  by_cases hyx : y = x
  ·subst hyx; exact ⟨y, by simp, rfl⟩
  exact ⟨y, by simpa only [if_neg hyx] using hy, rfl⟩
 have hxl : S.live (S.β x) := ⟨x, by rw [hx]; rfl, rfl⟩
 have hle : Le S { S with w := S.w.setRow (S.β x) cur', O := fun z => if z = x then some o' else S.O z } :=
  ⟨by simp, rfl, rfl, rfl, rfl, Nat.le_refl _, fun _ _ => rfl, fun b hb => ⟨⟨by simpa using hb.1, fun h => hb.2 ((hlive b).1 h)⟩, hold b fun e => hb.2 (e ▸ hxl)⟩⟩
 have hmov : Mov S { S with w := S.w.setRow (S.β x) cur', O := fun z => if z = x then some o' else S.O z } (fun _ => False) := by
  refine ⟨hle, fun y oy hy _ => ?_, fun y z hy => ⟨hy, rfl⟩⟩
  by_cases hyx : y = x
  ·subst hyx
   rw [hx] at hy
   cases hy
   refine ⟨o', by simp, ht, hz, hb, rfl, hl, fun c hcc => ⟨cur', hnew, ?_⟩⟩
   rw [hcur] at hcc; cases hcc; exact hs
  refine ⟨oy, by simpa only [if_neg hyx] using hy, rfl, rfl, rfl, rfl, rfl, fun c hcc => ⟨c, ?_, rfl⟩⟩
  show (S.w.setRow (S.β x) cur').heap[S.β y]? = _
  rw [hold _ fun e => hyx (sim.inj y x (by rw [hy]; rfl) (by rw [hx]; rfl) e)]
  exact hcc
 refine ⟨⟨fun y oy hy => ?_, fun y z hy hz' hyz => ?_, fun y hy => ?_, fun t h1 h2 => ?_, sim.tinj, by simpa using sim.b0, fun y z hy => by
  have hyx : y ≠ x := fun e => by rw [e] at hy; rw [sim.hid x z hy] at hx; cases hx
  show (if y = x then some o' else S.O y) = none
  rw [if_neg hyx]; exact sim.hid y z hy, sim.tk2⟩, hmov, hnew⟩
 ·by_cases hyx : y = x
  ·subst hyx
   simp only [if_true] at hy
   cases hy
   obtain ⟨c, q1, q2, q3, q4, q5⟩ := sim.obj y o hx
   rw [hcur] at q1
   cases q1
   refine ⟨cur', by rw [ht]; exact hnew, by rw [hl, hz, hs]; exact q2, fun h => ?_, hes, fun i e j v hi hj => let ⟨r1, u, r2, r3, r4⟩ := hc i e j v hi hj; ⟨r1, u, r2, r3.mov0 hmov, fun h => (r4 h).le hle⟩⟩
   have := q3 (by rw [← hb]; exact h)
   exact ⟨by rw [hl]; exact this.1, by rw [hs, hz]; exact this.2⟩
  have hy' : S.O y = some oy := by simpa only [if_neg hyx] using hy
  obtain ⟨c, q1, q2, q3, q4, q5⟩ := sim.obj y oy hy'
  refine ⟨c, ?_, q2, q3, q4, fun i e j v hi hj => let ⟨r1, u, r2, r3, r4⟩ := q5 i e j v hi hj; ⟨r1, u, r2, r3.mov0 hmov, fun h => (r4 h).le hle⟩⟩
  show (S.w.setRow (S.β x) cur').heap[S.β y]? = _
  rw [hold _ fun e => hyx (sim.inj y x (by rw [hy']; rfl) (by rw [hx]; rfl) e)]
  exact q1
 ·have f : ∀ y, ((fun z => if z = x then some o' else S.O z) y).isSome = true → (S.O y).isSome = true := fun y hy => by
   by_cases hyx : y = x
   ·subst hyx; rw [hx]; rfl
   simpa only [if_neg hyx] using hy
  exact sim.inj y z (f y hy) (f z hz') hyz
 ·by_cases hyx : y = x
  ·subst hyx; exact sim.base y (by rw [hx]; rfl)
  exact sim.base y (by simpa only [if_neg hyx] using hy)
 obtain ⟨q1, q2, q3⟩ := sim.tok t h1 h2
 exact ⟨by simpa using q1, fun h => q2 ((hlive _).1 h), q3⟩

def setl (k : Nat) (o : Obj) : List (Nat × Obj) → List (Nat × Obj)
 | [] => []
 | (j, p) :: r => match Nat.beq k j with
  | true => (j, o) :: r
  | false => (j, p) :: setl k o r

theorem look_setl {k : Nat} {o : Obj} : ∀ {l : List (Nat × Obj)}, (look k l).isSome = true → ∀ i, look i (setl k o l) = if i = k then some o else look i l
 | [], h, i => by simp [look] at h
 | (j, p) :: r, h, i => by
  unfold setl
  cases hk : Nat.beq k j with
  | true =>
   have := Nat.eq_of_beq_eq_true hk
   subst this
   simp only [look]
   by_cases hi : i = k
   ·subst hi; simp
   have : Nat.beq i k = false := by rw [← Bool.not_eq_true]; intro hh; exact hi (Nat.eq_of_beq_eq_true hh)
   simp [this, hi]
  | false =>
   simp only [look, hk] at h ⊢
   cases hi : Nat.beq i j with
   | true =>
    have := Nat.eq_of_beq_eq_true hi
    subst this
    have hne : i ≠ k := fun e => by subst e; rw [Nat.beq_refl] at hk; cases hk
    simp [hne]
   | false => exact look_setl h i

theorem At.setLoc {C : Ctx} {σ : St} {a : Act} {w : World} {S : Sit} (h : At C σ a w S) {k : Nat} {o : Obj} (hk : look k σ.l = some o) (o' : Obj) (ht : o'.ty = o.ty) (hz : o'.sz = o.sz) (hb : o'.box = o.box) (hl : o'.es.length = o.es.length)
  (cur cur' : Array Value) (hcur : w.heap[S.β (.loc k)]? = some (.cells cur o.ty (0, 0))) (hs : cur'.size = cur.size) (hes : ∀ e ∈ o'.es, e.length = o'.sz)
  (hc : ∀ (i : Nat) (e : List AV) (j : Nat) (v : AV), o'.es[i]? = some e → e[j]? = some v → v.d1 = true ∧ ∃ u, cur'[i * o'.sz + j]? = some u ∧ Rep S v u ∧ (o'.box = false → RepC S v u)) :
  ∃ S', At C ⟨σ.env, setl k o' σ.l, σ.b, σ.O, σ.tk⟩ a (w.setRow (S.β (.loc k)) cur') S' ∧ Mov S S' (fun _ => False) := by
 have hwS := h.w
 subst hwS
 have hx : S.O (.loc k) = some o := by rw [h.O]; exact hk
 obtain ⟨hsim, hmov, hnew⟩ := Sit.set h.sim hx o' ht hz hb hl cur cur' hcur hs hes hc _ rfl
 have hOeq : (fun z => if z = ID.loc k then some o' else S.O z) = C.heap ⟨σ.env, setl k o' σ.l, σ.b, σ.O, σ.tk⟩ := by
  funext z
  rw [h.O]
  cases z with
  | loc i =>
   show _ = look i (setl k o' σ.l)
   rw [look_setl (by rw [hk]; rfl) i]
   by_cases hi : i = k
   ·subst hi; simp
   rw [if_neg hi, if_neg (fun e => hi (by cases e; rfl))]; rfl
  | bor i => rw [if_neg (fun e => by cases e)]; rfl
  | up z => rw [if_neg (fun e => by cases e)]; rfl
 refine ⟨{ S with w := S.w.setRow (S.β (.loc k)) cur', O := fun z => if z = .loc k then some o' else S.O z }, ⟨rfl, hOeq, h.tk, hsim, fun i v hv => ?_, h.nt, h.defers, ?_, fun i hi => h.new i ?_, h.bl, h.nd, h.bb, h.h0, h.hl, h.hu, h.hv, h.hf, h.inv⟩, hmov⟩
 ·obtain ⟨u, hu, hr⟩ := h.env i v hv
  exact ⟨u, hu, hr.mov0 hmov⟩
 ·refine h.ext.own rfl rfl rfl rfl (Nat.le_refl _) (fun _ _ => rfl) rfl rfl rfl hmov.size (fun x o hx => h.h0.lt hx) (fun b hb => ?_) (fun t h1 h2 => absurd h1 (Nat.not_le_of_lt h2))
  exact setRow_other S.w _ b cur' fun e => by have := h.new k (by rw [hk]; rfl); omega
 by_cases hik : i = k
 ·subst hik; rw [hk]; rfl
 rw [look_setl (by rw [hk]; rfl) i, if_neg hik] at hi; exact hi

def cl : AV → Bool
 | .int .. => true
 | .bool _ => true
 | .str _ => true
 | .nilp => true
 | .imm .. => true
 | .nilfn => true
 | .nilif => true
 | .fn _ [] [] => true
 | _ => false

theorem cl_fn {f : Fn} {a b : List AV} (h : cl (.fn f a b) = true) : a = [] ∧ b = [] := by
 cases a with
 | nil => cases b with
  | nil => exact ⟨rfl, rfl⟩
  | cons => cases h
 | cons => cases h

theorem cl_repc {S : Sit} {v : AV} {u : Value} (h : Rep S v u) (hv : cl v = true) : RepC S v u := by
 cases h with
 | any => cases hv
 | jnk => cases hv
 | clo h => exact h
 | optr => cases hv
 | hidp => cases hv
 | osl => cases hv
 | fn f a b us1 us2 l1 l2 h1 h2 =>
  obtain ⟨rfl, rfl⟩ := cl_fn hv
  exact .fn f [] [] us1 us2 l1 l2 (fun j x hx => by simp at hx) (fun j x hx => by simp at hx)
 | agg => cases hv
 | tup => cases hv

theorem cl_up {v : AV} (hv : cl v = true) : v.up = v := by
 cases v with
 | fn f a b => obtain ⟨rfl, rfl⟩ := cl_fn hv; rfl
 | _ => first | rfl | cases hv

theorem OB_get {bor : List ID} : ∀ {b : List Obj} {O : Heap} {k : Nat} {x : ID} {o : Obj}, bor.Nodup → b.length = bor.length → bor[k]? = some x → b[k]? = some o → OB bor b O x = some o := by
 induction bor with
 | nil => intro b O k x o _ _ h _; simp at h
 | cons y ys ih =>
  intro b O k x o hn hl hx ho
  cases b with
  | nil => simp at ho
  | cons p ps =>
   cases k with
   | zero =>
    simp at hx ho; subst hx; subst ho
    simp [OB, upd]
   | succ k =>
    simp only [List.getElem?_cons_succ] at hx ho
    rw [List.nodup_cons] at hn
    have hxy : x ≠ y := fun e => hn.1 (by rw [← e]; exact List.mem_of_getElem? hx)
    simp only [OB, upd, if_neg hxy]
    exact ih hn.2 (by simpa using hl) hx ho

theorem OB_not {bor : List ID} : ∀ {b : List Obj} {O : Heap} {x : ID}, x ∉ bor → OB bor b O x = O x := by
 induction bor with
 | nil => intro b O x _; cases b <;> rfl
 | cons y ys ih =>
  intro b O x hx
  simp only [List.mem_cons, not_or] at hx
  cases b with
  | nil => rfl
  | cons p ps => simp only [OB, upd, if_neg hx.1]; exact ih hx.2

theorem At.setBor {C : Ctx} {σ : St} {a : Act} {w : World} {S : Sit} (h : At C σ a w S) {k : Nat} {o : Obj} (hk : σ.b[k]? = some o) (o' : Obj) (ht : o'.ty = o.ty) (hz : o'.sz = o.sz) (hb : o'.box = o.box) (hbx : o.box = true) (hl : o'.es.length = o.es.length)
  (cur cur' : Array Value) (hcur : w.heap[S.β (.bor k)]? = some (.cells cur o.ty (0, 0))) (hs : cur'.size = cur.size) (hes : ∀ e ∈ o'.up.es, e.length = o'.sz)
  (hc : ∀ (i : Nat) (e : List AV) (j : Nat) (v : AV), o'.up.es[i]? = some e → e[j]? = some v → v.d1 = true ∧ ∃ u, cur'[i * o'.sz + j]? = some u ∧ Rep S v u) :
  ∃ S', At C ⟨σ.env, σ.l, σ.b.set k o', σ.O, σ.tk⟩ a (w.setRow (S.β (.bor k)) cur') S' ∧ Mov S S' (fun _ => False) := by
 have hwS := h.w
 subst hwS
 have hlt : k < σ.b.length := (List.getElem?_eq_some_iff.1 hk).1
 have hx : S.O (.bor k) = some o.up := by rw [h.O]; show (σ.b[k]?).map Obj.up = _; rw [hk]; rfl
 have hbf : o'.up.box ≠ false := by show o'.box ≠ false; rw [hb, hbx]; exact fun h => by cases h
 obtain ⟨hsim, hmov, hnew⟩ := Sit.set h.sim hx o'.up ht hz hb (by simpa [Obj.up] using hl) cur cur' hcur hs hes
  (fun i e j v hi hj => let ⟨q1, u, q2, q3⟩ := hc i e j v hi hj; ⟨q1, u, q2, q3, fun hf => absurd hf hbf⟩) _ rfl
 have hOeq : (fun z => if z = ID.bor k then some o'.up else S.O z) = C.heap ⟨σ.env, σ.l, σ.b.set k o', σ.O, σ.tk⟩ := by
  funext z
  rw [h.O]
  cases z with
  | loc i => rw [if_neg (fun e => by cases e)]; rfl
  | bor i =>
   show _ = ((σ.b.set k o')[i]?).map Obj.up
   by_cases hi : i = k
   ·subst hi; simp [hlt]
   rw [if_neg (fun e => hi (by cases e; rfl)), List.getElem?_set_ne (Ne.symm hi)]; rfl
  | up z => rw [if_neg (fun e => by cases e)]; rfl
 obtain ⟨x, hbx'⟩ : ∃ x, C.bor[k]? = some x := ⟨_, List.getElem?_eq_getElem (by rw [← h.bl]; exact hlt)⟩
 refine ⟨{ S with w := S.w.setRow (S.β (.bor k)) cur', O := fun z => if z = .bor k then some o'.up else S.O z }, ⟨rfl, hOeq, h.tk, hsim, fun i v hv => ?_, h.nt, h.defers, ?_, h.new, by simpa using h.bl, h.nd, h.bb, h.h0, h.hl, h.hu, h.hv, h.hf, h.inv⟩, hmov⟩
 ·obtain ⟨u, hu, hr⟩ := h.env i v hv
  exact ⟨u, hu, hr.mov0 hmov⟩
 -- the caller's objects: one of them has turned
 have hout : C.out σ x = some o := OB_get h.nd h.bl hbx' hk
 have hout' : C.out ⟨σ.env, σ.l, σ.b.set k o', σ.O, σ.tk⟩ x = some o' := OB_get h.nd (by simpa using h.bl) hbx' (by simp [hlt])
 have hoth : ∀ y, y ≠ x → C.out ⟨σ.env, σ.l, σ.b.set k o', σ.O, σ.tk⟩ y = C.out σ y := by
  intro y hy
  by_cases hm : y ∈ C.bor
  ·obtain ⟨j, hj⟩ := List.mem_iff_getElem?.1 hm
   have hjk : j ≠ k := fun e => by subst e; rw [hbx'] at hj; cases hj; exact hy rfl
   obtain ⟨p, hp⟩ : ∃ p, σ.b[j]? = some p := ⟨_, List.getElem?_eq_getElem (by rw [h.bl]; exact (List.getElem?_eq_some_iff.1 hj).1)⟩
   rw [show C.out σ y = some p from OB_get h.nd h.bl hj hp]
   exact OB_get h.nd (by simpa using h.bl) hj (by rw [List.getElem?_set_ne (Ne.symm hjk)]; exact hp)
  rw [show C.out σ y = σ.O y from OB_not hm]; exact OB_not hm
 have hβx : S.β (.up x) = S.β (.bor k) := (h.bb k x hbx').symm
 obtain ⟨wT, hchg, hext⟩ := h.ext
 have hxb : ∃ o0, C.S0.O x = some o0 := by
  cases h0 : C.S0.O x with
  | none => have := hext.non x h0; rw [show (outer S (C.out σ) C.S0.hid C.S0.fz).O x = C.out σ x from rfl, hout] at this; cases this
  | some o0 => exact ⟨o0, rfl⟩
 obtain ⟨o0, ho0⟩ := hxb
 have hβ0 : S.β (.bor k) = C.S0.β x := by
  obtain ⟨_, _, _, _, _, q, _⟩ := hext.obj x o0 ho0
  rw [← hβx]; exact q
 refine ⟨wT, hchg, ⟨by have := hext.size; simpa [outer] using this, hext.os, hext.tape, hext.output, hext.B0, hext.tk, hext.tau, fun b hbc => ?_⟩, fun y oy hy => ?_, fun y hy => ?_, fun y z hy => hext.hid y z hy, hext.hidE, hext.fzE, hext.fresh⟩
 ·obtain ⟨h1, h2⟩ := hext.con b hbc
  have hne : b ≠ S.β (.bor k) := fun e => hbc.2 ⟨x, by rw [ho0]; rfl, by rw [e, hβ0]⟩
  refine ⟨⟨by simpa [outer] using h1.1, fun ⟨y, hy, hyb⟩ => ?_⟩, ?_⟩
  ·by_cases hyx : y = x
   ·subst hyx; exact hne (by rw [← hyb]; exact hβx)
   exact h1.2 ⟨y, by rw [show (outer S (C.out σ) C.S0.hid C.S0.fz).O y = C.out σ y from rfl, ← hoth y hyx]; exact hy, hyb⟩
  show (S.w.setRow (S.β (.bor k)) cur').heap[b]? = _
  rw [setRow_other S.w _ b cur' hne]; exact h2
 ·obtain ⟨oy', r1, r2, r3, r4, r5, r6⟩ := hext.obj y oy hy
  by_cases hyx : y = x
  ·subst hyx
   rw [show (outer S (C.out σ) C.S0.hid C.S0.fz).O y = C.out σ y from rfl, hout] at r1
   cases r1
   refine ⟨o', hout', ht.trans r2, hz.trans r3, hb.trans r4, r5, fun hf => ?_⟩
   rcases hf with hf | hf
   ·rw [← r4, hbx] at hf; cases hf
   rw [h.hf y (List.mem_of_getElem? hbx')] at hf; cases hf
  refine ⟨oy', ?_, r2, r3, r4, r5, fun hf => ⟨(r6 hf).1, ?_⟩⟩
  ·show C.out ⟨σ.env, σ.l, σ.b.set k o', σ.O, σ.tk⟩ y = _
   rw [hoth y hyx]; exact r1
  show (S.w.setRow (S.β (.bor k)) cur').heap[C.S0.β y]? = _
  have hne : C.S0.β y ≠ S.β (.bor k) := fun e => hyx (h.h0.inj y x (by rw [hy]; rfl) (by rw [ho0]; rfl) (by rw [e, hβ0]))
  rw [setRow_other S.w _ _ cur' hne]
  exact (r6 hf).2
 by_cases hyx : y = x
 ·subst hyx; rw [ho0] at hy; cases hy
 show C.out ⟨σ.env, σ.l, σ.b.set k o', σ.O, σ.tk⟩ y = _
 rw [hoth y hyx]; exact hext.non y hy

end Go.Am
