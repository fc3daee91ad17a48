/- The abstract memory logic and its tools: several texts in one. -/
import Derived.Test.YtoajlhhalpldfaaGreatDoorMi1

/- Memory that a call turns in place: what avoids it stays; contracts of such calls. -/
namespace Go.Am
open Go

inductive AvP (p : Nat → Prop) : AV → Prop
 | int (k n) : AvP p (.int k n)
 | bool (b) : AvP p (.bool b)
 | str (s) : AvP p (.str s)
 | nilp : AvP p .nilp
 | nilfn : AvP p .nilfn
 | nilif : AvP p .nilif
 | imm (tok sz full) (es : List (List AV)) (h : es ≠ [] → p tok) (hs : ∀ (i : Nat) (e : List AV) (j : Nat) (x : AV), es[i]? = some e → e[j]? = some x → AvP p x) : AvP p (.imm tok sz full es)

abbrev AvC (T : Nat → Prop) : AV → Prop := AvP fun t => t = 0 ∨ (2 ≤ t ∧ ¬ T t)

theorem AvP.mono {p q : Nat → Prop} (h : ∀ t, p t → q t) {v : AV} (k : AvP p v) : AvP q v := by
 induction k with
 | int => exact .int _ _
 | bool => exact .bool _
 | str => exact .str _
 | nilp => exact .nilp
 | nilfn => exact .nilfn
 | nilif => exact .nilif
 | imm tok sz full es h1 hs ih => exact .imm tok sz full es (fun hn => h _ (h1 hn)) ih

theorem RepC.own {S S' : Sit} (hw : S'.w = S.w) (hτ : S'.τ = S.τ) (htk : S'.tk = S.tk) (hc : ∀ t, 2 ≤ t → t < S.tk → S'.con (S.τ t)) {v : AV} {u : Value} (h : RepC S v u) (ha : AvP (fun t => 2 ≤ t) v) : RepC S' v u := by
 induction h with
 | int k n => exact .int k n
 | bool b => exact .bool b
 | str s => exact .str s
 | nilp => exact .nilp
 | imm0 tok sz full a c hf hm => exact .imm0 tok sz full a c hf hm
 | imm tok sz full es b o c us hne hcb hl hm hf ht h0 hsz hd h1 h2 ih =>
  cases ha with
  | imm _ _ _ _ hT ha =>
   have h2t := hT hne
   obtain ⟨a1, a2, a3, cur, ty, a4⟩ := ht h2t
   exact .imm tok sz full es b o c us hne (by rw [← a2]; exact hc tok h2t a1) hl hm hf (fun _ => ⟨by rw [htk]; exact a1, by rw [hτ]; exact a2, a3, cur, ty, by rw [hw]; exact a4⟩) (fun h => absurd h (by omega)) hsz hd
    (fun i e j x hi hj => by rw [hw]; exact h1 i e j x hi hj) fun i e j x hi hj => ih i e j x hi hj (ha i e j x hi hj)
 | nilfn => exact .nilfn
 | nilif => exact .nilif
 | cptr => cases ha
 | fn => cases ha
 | iface => cases ha
 | agg => cases ha
 | tup => cases ha

theorem AvC.repc {T : Nat → Prop} {S : Sit} {v : AV} {u : Value} (h : AvC T v) (hr : Rep S v u) : RepC S v u := by
 cases h with
 | int => exact cl_repc hr rfl
 | bool => exact cl_repc hr rfl
 | str => exact cl_repc hr rfl
 | nilp => exact cl_repc hr rfl
 | nilfn => exact cl_repc hr rfl
 | nilif => exact cl_repc hr rfl
 | imm => exact rep_imm hr

structure Kp (T : Nat → Prop) (S S' : Sit) : Prop where
 B0 : S'.B0 = S.B0
 tk : S.tk ≤ S'.tk
 tau : ∀ t, t < S.tk → S'.τ t = S.τ t
 con : ∀ b, S.con b → (∀ t, T t → 2 ≤ t → t < S.tk → S.τ t ≠ b) → S'.con b ∧ S'.w.heap[b]? = S.w.heap[b]?

theorem RepC.av {T : Nat → Prop} {S S' : Sit} (hk : Kp T S S') (hs : SimH S) {v : AV} {u : Value} (h : RepC S v u) (ha : AvC T v) : RepC S' v u := by
 induction h with
 | int k n => exact .int k n
 | bool b => exact .bool b
 | str s => exact .str s
 | nilp => exact .nilp
 | imm0 tok sz full a c hf hm => exact .imm0 tok sz full a c hf hm
 | imm tok sz full es b o c us hne hc hl hm hf ht h0 hsz hd h1 h2 ih =>
  cases ha with
  | imm _ _ _ _ hT ha =>
   have hfree : ∀ t, T t → 2 ≤ t → t < S.tk → S.τ t ≠ b := by
    intro t q1 q2 q3 e
    rcases hT hne with hz | ⟨h2, hn⟩
    ·have := (hs.tok t q2 q3).2.2
     have := h0 hz
     omega
    obtain ⟨a1, a2, _⟩ := ht h2
    have := hs.tinj t tok q2 q3 h2 a1 (e.trans a2.symm)
    subst this
    exact hn q1
   exact .imm tok sz full es b o c us hne (hk.con b hc hfree).1 hl hm hf (fun h => let ⟨a, b', c, cur, ty, d⟩ := ht h; ⟨Nat.lt_of_lt_of_le a hk.tk, (hk.tau _ a).trans b', c, cur, ty, (hk.con b hc hfree).2.trans d⟩)
    (fun h => by rw [hk.B0]; exact h0 h) hsz hd (fun i e j x hi hj => cell_of_eq (hk.con b hc hfree).2 (h1 i e j x hi hj)) fun i e j x hi hj => ih i e j x hi hj (ha i e j x hi hj)
 | nilfn => exact .nilfn
 | nilif => exact .nilif
 | cptr => cases ha
 | fn => cases ha
 | iface => cases ha
 | agg => cases ha
 | tup => cases ha

theorem RepC.turn {S S' : Sit} (hτ : ∀ t, t < S.tk → S'.τ t = S.τ t) {q sz : Nat} {f : Bool} {es es' : List (List AV)} {u u' : Value} (h : RepC S (.imm q sz f es) u) (h' : RepC S' (.imm q sz f es') u')
  (hl : es'.length = es.length) (hq : 2 ≤ q) : RepC S' (.imm q sz f es') u := by
 cases h with
 | imm0 _ _ _ a c hf hm =>
  have : es' = [] := List.length_eq_zero_iff.1 hl
  subst this
  exact .imm0 _ _ _ _ _ hf hm
 | imm _ _ _ _ b o c us hne hc hlc hm hf ht h0 hsz hd h1 h2 =>
  cases h' with
  | imm0 => exact absurd (List.length_eq_zero_iff.1 hl.symm) hne
  | imm _ _ _ _ b' o' c' us' hne' hc' hlc' hm' hf' ht' h0' hsz' hd' h1' h2' =>
   obtain ⟨a1, a2, a3, _⟩ := ht hq
   obtain ⟨b1, b2, b3, _⟩ := ht' hq
   subst a3 b3
   have e : b = b' := by rw [← a2, ← b2, hτ q a1]
   subst e
   rw [← hl]
   exact .imm q sz f es' b 0 c us' hne' hc' (by omega) hm (fun h => by rw [hl]; exact hf h) ht' h0' hsz' hd' h1' h2'

inductive TnC (T : Nat → Prop) (G : AV → AV → Prop) : AV → AV → Prop
 | av (v) (h : AvC T v) : TnC T G v v
 | turn (v v') (h : G v v') : TnC T G v v'
 | imm (q sz f) (es es' : List (List AV)) (hl : es'.length = es.length) (hq : q = 0 ∨ (2 ≤ q ∧ ¬ T q)) (hel : ∀ (i : Nat) (e e' : List AV), es[i]? = some e → es'[i]? = some e' → e'.length = e.length)
   (hd : ∀ (i : Nat) (e' : List AV) (j : Nat) (x : AV), es'[i]? = some e' → e'[j]? = some x → x.d1 = true)
   (h : ∀ (i : Nat) (e e' : List AV) (j : Nat) (x x' : AV), es[i]? = some e → es'[i]? = some e' → e[j]? = some x → e'[j]? = some x' → TnC T G x x') : TnC T G (.imm q sz f es) (.imm q sz f es')

theorem RepC.free {T : Nat → Prop} {S : Sit} (hs : SimH S) {q b o : Nat} (ht : 2 ≤ q → q < S.tk ∧ S.τ q = b ∧ o = 0 ∧ ∃ (cur : Array Value) (ty : TypeId), S.w.heap[b]? = some (.cells cur ty (0, 0))) (h0 : q = 0 → b < S.B0) (hT : q = 0 ∨ (2 ≤ q ∧ ¬ T q)) :
  ∀ t, T t → 2 ≤ t → t < S.tk → S.τ t ≠ b := by
 intro t q1 q2 q3 e
 rcases hT with hz | ⟨h2, hn⟩
 ·have := (hs.tok t q2 q3).2.2
  have := h0 hz
  omega
 obtain ⟨a1, a2, _⟩ := ht h2
 have := hs.tinj t q q2 q3 h2 a1 (e.trans a2.symm)
 subst this
 exact hn q1

theorem RepC.tn {T : Nat → Prop} {G : AV → AV → Prop} {S S' : Sit} (hk : Kp T S S') (hs : SimH S) (hG : ∀ v v', G v v' → ∀ u, RepC S v u → RepC S' v' u) {v v' : AV} (h : TnC T G v v') : ∀ {u : Value}, RepC S v u → RepC S' v' u := by
 induction h with
 | av v h => intro u hr; exact hr.av hk hs h
 | turn v v' h => intro u hr; exact hG v v' h u hr
 | imm q sz f es es' hl hq hel hd h ih =>
  intro u hr
  cases hr with
  | imm0 _ _ _ a c hf hm =>
   have : es' = [] := List.length_eq_zero_iff.1 hl
   subst this
   exact .imm0 _ _ _ _ _ hf hm
  | imm _ _ _ _ b o c us hne hc hlc hm hf ht h0 hsz hd0 h1 h2 =>
   have hfree := RepC.free hs ht h0 hq
   have hi' : ∀ (i : Nat) (e' : List AV), es'[i]? = some e' → ∃ e, es[i]? = some e := fun i e' hi => ⟨_, List.getElem?_eq_getElem (by rw [← hl]; exact (List.getElem?_eq_some_iff.1 hi).1)⟩
   have hj' : ∀ (e e' : List AV) (j : Nat) (x : AV), e'.length = e.length → e'[j]? = some x → ∃ y, e[j]? = some y := fun e e' j x hle hj => ⟨_, List.getElem?_eq_getElem (by rw [← hle]; exact (List.getElem?_eq_some_iff.1 hj).1)⟩
   rw [← hl]
   refine .imm q sz f es' b o c us (fun hn => hne (by rw [hn] at hl; exact List.length_eq_zero_iff.1 hl.symm)) (hk.con b hc hfree).1 (by omega) hm (fun h => by rw [hl]; exact hf h)
    (fun h => let ⟨a, b', c, cur, ty, d⟩ := ht h; ⟨Nat.lt_of_lt_of_le a hk.tk, (hk.tau _ a).trans b', c, cur, ty, (hk.con b hc hfree).2.trans d⟩) (fun h => by rw [hk.B0]; exact h0 h)
    (fun e' he' => ?_) hd (fun i e' j x hi hj => ?_) (fun i e' j x hi hj => ?_)
   ·obtain ⟨i, hi⟩ := List.mem_iff_getElem?.1 he'
    obtain ⟨e, he⟩ := hi' i e' hi
    rw [hel i e e' he hi]; exact hsz e (List.mem_of_getElem? he)
   ·obtain ⟨e, he⟩ := hi' i e' hi
    obtain ⟨y, hy⟩ := hj' e e' j x (hel i e e' he hi) hj
    exact cell_of_eq (hk.con b hc hfree).2 (h1 i e j y he hy)
   obtain ⟨e, he⟩ := hi' i e' hi
   obtain ⟨y, hy⟩ := hj' e e' j x (hel i e e' he hi) hj
   exact ih i e e' j y x he hi hy hj (h2 i e j y he hy)

theorem TnC.repc {T : Nat → Prop} {G : AV → AV → Prop} {S : Sit} (hG : ∀ v v', G v v' → cl v = true) {v v' : AV} {u : Value} (h : TnC T G v v') (hr : Rep S v u) : RepC S v u := by
 cases h with
 | av _ h => exact h.repc hr
 | turn _ _ h => exact cl_repc hr (hG _ _ h)
 | imm => exact rep_imm hr

inductive Tn (T : Nat → Prop) (G : AV → AV → Prop) : AV → AV → Prop
 | any (v) : Tn T G v .any
 | clo (v v') (h : TnC T G v v') : Tn T G v v'
 | optr (x i off) : Tn T G (.optr x i off) (.optr x i off)
 | agg (cs cs' : List AV) (hl : cs'.length = cs.length) (hd : ∀ (j : Nat) (x : AV), cs'[j]? = some x → x.d1 = true) (h : ∀ (j : Nat) (x x' : AV), cs[j]? = some x → cs'[j]? = some x' → Tn T G x x') : Tn T G (.agg cs) (.agg cs')
 | jnk (v) (h : v.d1 = true) : Tn T G v .jnk

theorem Tn.av {T : Nat → Prop} {G : AV → AV → Prop} {v : AV} (h : AvC T v) : Tn T G v v := .clo v v (.av v h)
theorem Tn.turn {T : Nat → Prop} {G : AV → AV → Prop} {v v' : AV} (h : G v v') : Tn T G v v' := .clo v v' (.turn v v' h)

theorem Rep.tn {T : Nat → Prop} {G : AV → AV → Prop} {S S' : Sit} (hk : Kp T S S') (hs : SimH S) (hG : ∀ v v', G v v' → ∀ u, RepC S v u → RepC S' v' u) (hc : ∀ v v', G v v' → cl v = true)
  (hO : ∀ x o, S.O x = some o → ∃ o', S'.O x = some o' ∧ o'.sz = o.sz) (hβ : S'.β = S.β) (hh : S'.hid = S.hid) {v v' : AV} (h : Tn T G v v') : ∀ {u : Value}, Rep S v u → Rep S' v' u := by
 induction h with
 | any => intro u _; exact .any u
 | clo v v' h => intro u hr; exact .clo (RepC.tn hk hs hG h (h.repc hc hr))
 | optr x i off =>
  intro u hr
  cases hr with
  | clo h => cases h
  | optr _ _ _ o ho =>
   obtain ⟨o', h', hz⟩ := hO x o ho
   rw [← hβ, ← hz]
   exact .optr x i off o' h'
  | hidp _ _ _ sz h => rw [← hβ]; exact .hidp x i off sz (by rw [hh]; exact h)
 | agg cs cs' hl hd h ih =>
  intro u hr
  obtain ⟨us, rfl, hl', hs', hr'⟩ := rep_agg hr
  refine .agg cs' us (hl'.trans hl.symm) hd fun j x' hj => ?_
  have hjl : j < cs.length := by rw [← hl]; exact (List.getElem?_eq_some_iff.1 hj).1
  exact ih j _ x' (List.getElem?_eq_getElem hjl) hj (hr' j _ (List.getElem?_eq_getElem hjl))
 | jnk v h => intro u hr; exact .jnk _ (d1_one hr h)

inductive TnE (T : Nat → Prop) (G : AV → AV → Prop) (env : List (Nat × AV)) : List (Nat × AV) → Prop
 | nil : TnE T G env []
 | cons (i v v' r) (h : look i env = some v) (k : Tn T G v v') (t : TnE T G env r) : TnE T G env ((i, v') :: r)

theorem TnE.get {T : Nat → Prop} {G : AV → AV → Prop} {env env' : List (Nat × AV)} (h : TnE T G env env') : ∀ i v', look i env' = some v' → ∃ v, look i env = some v ∧ Tn T G v v' := by
 induction h with
 | nil => intro i v' h; simp [look] at h
 | cons j v v' r h k t ih =>
  intro i x hx
  simp only [look] at hx
  split at hx
  ·rename_i hb
   cases hx
   rw [Nat.eq_of_beq_eq_true hb]
   exact ⟨v, h, k⟩
  exact ih i x hx

structure TnO (T : Nat → Prop) (G : AV → AV → Prop) (o o' : Obj) : Prop where
 ty : o'.ty = o.ty
 sz : o'.sz = o.sz
 box : o'.box = o.box
 len : o'.es.length = o.es.length
 el : ∀ (i : Nat) (e e' : List AV), o.es[i]? = some e → o'.es[i]? = some e' → e'.length = e.length
 cell : ∀ (i : Nat) (e e' : List AV) (j : Nat) (x x' : AV), o.es[i]? = some e → o'.es[i]? = some e' → e[j]? = some x → e'[j]? = some x' → Tn T G x x' ∧ x'.d1 = true ∧ (o.box = false → x' = x ∧ AvC T x)

inductive TnL (T : Nat → Prop) (G : AV → AV → Prop) : List (Nat × Obj) → List (Nat × Obj) → Prop
 | nil : TnL T G [] []
 | cons (k o o' r r') (h : TnO T G o o') (t : TnL T G r r') : TnL T G ((k, o) :: r) ((k, o') :: r')

theorem TnL.get {T : Nat → Prop} {G : AV → AV → Prop} {l l' : List (Nat × Obj)} (h : TnL T G l l') (k : Nat) :
  (∀ o', look k l' = some o' → ∃ o, look k l = some o ∧ TnO T G o o') ∧ (∀ o, look k l = some o → ∃ o', look k l' = some o' ∧ TnO T G o o') := by
 induction h with
 | nil => exact ⟨fun o' h => by simp [look] at h, fun o h => by simp [look] at h⟩
 | cons j o o' r r' h t ih =>
  simp only [look]
  cases Nat.beq k j with
  | true => exact ⟨fun p hp => by cases hp; exact ⟨o, rfl, h⟩, fun p hp => by cases hp; exact ⟨o', rfl, h⟩⟩
  | false => exact ih

theorem TnO.one {T : Nat → Prop} {G : AV → AV → Prop} {ty : TypeId} {sz : Nat} {cs cs' : List AV} (hl : cs'.length = cs.length) (hd : alld1 cs' = true) (hc : ∀ (j : Nat) (x x' : AV), cs[j]? = some x → cs'[j]? = some x' → Tn T G x x') :
  TnO T G ⟨ty, sz, true, [cs]⟩ ⟨ty, sz, true, [cs']⟩ := by
 refine ⟨rfl, rfl, rfl, rfl, fun i e e' hi hi' => ?_, fun i e e' j x x' hi hi' hj hj' => ?_⟩
 ·cases i with
  | succ i => cases hi
  | zero => cases hi; cases hi'; exact hl
 cases i with
 | succ i => cases hi
 | zero => cases hi; cases hi'; exact ⟨hc j x x' hj hj', alld1_at hd j x' hj', fun h => by cases h⟩

def Sit.drop (S : Sit) : Sit := { S with O := fun _ => none, hid := fun _ => none }

theorem pre_get {α : Type} (a : Array α) (n b : Nat) : (a.extract 0 n)[b]? = if b < n then a[b]? else none := by
 rw [Array.getElem?_extract]
 simp only [Nat.sub_zero, Nat.zero_add]
 by_cases h : b < n
 ·by_cases h2 : b < a.size
  ·rw [if_pos (by omega), if_pos h]
  rw [if_neg (by omega), if_pos h, Array.getElem?_eq_none (by omega)]
 rw [if_neg (by omega), if_neg h]

def Turned (S' : Sit) (v v' : AV) : Prop := ∃ q sz f es es', v = .imm q sz f es ∧ v' = .imm q sz f es' ∧ es'.length = es.length ∧ 2 ≤ q ∧ AvP (fun t => 2 ≤ t) v' ∧ ∃ u', RepC S' v' u'

theorem At.turned {C : Ctx} {σ : St} {a : Act} {w : World} {S S' : Sit} (h : At C σ a w S) (hbor : C.bor = []) (hO : σ.O = fun _ => none) {T : Nat → Prop} (hT : ∀ t, T t → 2 ≤ t → t < σ.tk → C.T t ∨ C.S0.tk ≤ t)
  (hx : ExtT T S.drop S') (hs' : SimH S') {G : AV → AV → Prop} (hG : ∀ v v', G v v' → Turned S' v v') {env' : List (Nat × AV)} (henv : TnE T G σ.env env') {l' : List (Nat × Obj)} (hl : TnL T G σ.l l') :
  ∃ S'', At C ⟨env', l', [], fun _ => none, S'.tk⟩ a S'.w S'' := by
 have hwS := h.w
 subst hwS
 let σ' : St := ⟨env', l', [], fun _ => none, S'.tk⟩
 let S'' : Sit := { S' with O := C.heap σ', β := S.β, hid := S.hid, fz := S.fz }
 have hb0 : σ.b = [] := List.length_eq_zero_iff.1 (by rw [h.bl, hbor]; rfl)
 have hup : ∀ x, S.O (.up x) = none := fun x => by
  rw [h.O]; show (if x ∈ C.bor then none else (σ.O x).map Obj.up) = none
  rw [hO]; split <;> rfl
 have hbo : ∀ i, S.O (.bor i) = none := fun i => by
  rw [h.O]; show (σ.b[i]?).map Obj.up = none
  rw [hb0]; rfl
 have hlo : ∀ i, S.O (.loc i) = look i σ.l := fun i => by rw [h.O]; rfl
 have hup' : ∀ x, S''.O (.up x) = none := fun x => by
  show (if x ∈ C.bor then none else ((fun _ => none : Heap) x).map Obj.up) = none
  split <;> rfl
 have hO'' : ∀ x o', S''.O x = some o' → ∃ k o, x = .loc k ∧ S.O x = some o ∧ TnO T G o o' := by
  intro x o' hx'
  cases x with
  | loc k =>
   obtain ⟨o, h1, h2⟩ := (hl.get k).1 o' hx'
   exact ⟨k, o, rfl, by rw [hlo]; exact h1, h2⟩
  | bor i => cases hx'
  | up x => rw [hup'] at hx'; cases hx'
 have hOs : ∀ x o, S.O x = some o → ∃ o', S''.O x = some o' ∧ TnO T G o o' := by
  intro x o hx'
  cases x with
  | loc k => rw [hlo] at hx'; exact (hl.get k).2 o hx'
  | bor i => rw [hbo] at hx'; cases hx'
  | up x => rw [hup] at hx'; cases hx'
 have hlive : ∀ b, S''.live b → S.live b := by
  rintro b ⟨x, hx', rfl⟩
  obtain ⟨o', ho'⟩ := Option.isSome_iff_exists.1 hx'
  obtain ⟨k, o, rfl, ho, _⟩ := hO'' x o' ho'
  exact ⟨.loc k, by rw [ho]; rfl, rfl⟩
 have hsize : S.w.heap.size ≤ S'.w.heap.size := hx.size
 have hsame : ∀ b, b < S.w.heap.size → (∀ t, T t → 2 ≤ t → t < S.tk → S.τ t ≠ b) → S'.w.heap[b]? = S.w.heap[b]? := by
  intro b hb hn
  obtain ⟨w', k1, k2⟩ := hx
  have q1 := (k2.con b ⟨by rw [show ({ S.drop with w := w' } : Sit).w.heap.size = w'.heap.size from rfl, k1.size]; exact hb, fun ⟨x, hx, _⟩ => by cases hx⟩).2
  exact q1.trans (k1.same b hn)
 have htau : ∀ t, t < S.tk → S'.τ t = S.τ t := hx.tau
 have hkp : Kp T S S'' := ⟨hx.B0, hx.tk, htau, fun b hb hn => ⟨⟨Nat.lt_of_lt_of_le hb.1 hsize, fun hl => hb.2 (hlive b hl)⟩, hsame b hb.1 hn⟩⟩
 have htokc : ∀ t, 2 ≤ t → t < S'.tk → S'.τ t < S'.w.heap.size ∧ ¬ S''.live (S'.τ t) ∧ S'.B0 ≤ S'.τ t := by
  intro t h1 h2
  obtain ⟨q1, _, q3⟩ := hs'.tok t h1 h2
  refine ⟨q1, fun hl => ?_, q3⟩
  by_cases ht : t < S.tk
  ·rw [htau t ht] at hl
   exact (h.sim.tok t h1 ht).2.1 (hlive _ hl)
  have := hx.fresh t (by show S.tk ≤ t; omega) h2
  obtain ⟨x, hx', hxb⟩ := hlive _ hl
  obtain ⟨o, ho⟩ := Option.isSome_iff_exists.1 hx'
  have := h.sim.lt ho
  rw [hxb] at this
  have h3 : S.w.heap.size ≤ S'.τ t := hx.fresh t (by show S.tk ≤ t; omega) h2
  omega
 have hGc : ∀ v v', G v v' → cl v = true := by
  intro v v' hg
  obtain ⟨q, sz, f, es, es', rfl, _⟩ := hG v v' hg
  rfl
 have hG' : ∀ v v', G v v' → ∀ u, RepC S v u → RepC S'' v' u := by
  intro v v' hg u hr
  obtain ⟨q, sz, f, es, es', rfl, rfl, hlen, hq, hav, u', hu'⟩ := hG v v' hg
  have := RepC.own (S := S') (S' := S'') rfl rfl rfl (fun t h1 h2 => ⟨(htokc t h1 h2).1, (htokc t h1 h2).2.1⟩) hu' hav
  exact RepC.turn (S' := S'') htau hr this hlen hq
 have htn : ∀ {v v' : AV}, Tn T G v v' → ∀ {u : Value}, Rep S v u → Rep S'' v' u := fun hv _ hr =>
  Rep.tn hkp h.sim hG' hGc (fun x o hx => let ⟨o', q1, q2⟩ := hOs x o hx; ⟨o', q1, q2.sz⟩) rfl rfl hv hr
 have hnob : ∀ k o, S.O (.loc k) = some o → ∀ t, T t → 2 ≤ t → t < S.tk → S.τ t ≠ S.β (.loc k) := fun k o ho t _ h1 h2 e => (h.sim.tok t h1 h2).2.1 ⟨.loc k, by rw [ho]; rfl, e.symm⟩
 have hS0 : ∀ x, C.S0.O x = none := by
  intro x
  cases hq : C.S0.O x with
  | none => rfl
  | some o =>
   obtain ⟨o', q1, _⟩ := h.ext.obj0 x o hq
   have q2 : (OB C.bor σ.b σ.O x) = some o' := q1
   rw [OB_not (by rw [hbor]; exact List.not_mem_nil), hO] at q2
   cases q2
 refine ⟨S'', rfl, rfl, rfl, ⟨fun x o' hx' => ?_, fun x y hx' hy' hxy => ?_, fun x hx' => ?_, fun t h1 h2 => htokc t h1 h2, hs'.tinj, hs'.b0, fun x z hz => ?_, hs'.tk2⟩, fun i v' hv' => ?_, h.nt, h.defers, ?_, fun i hi => ?_, by rw [hbor]; rfl, h.nd, fun i x hi => ?_, h.h0, h.hl, h.hu, h.hv, h.hf, h.inv⟩
 ·obtain ⟨k, o, rfl, ho, hto⟩ := hO'' x o' hx'
  obtain ⟨cur, q1, q2, q3, q4, q5⟩ := h.sim.obj _ o ho
  refine ⟨cur, ?_, by rw [hto.len, hto.sz]; exact q2, fun hb => by rw [hto.len, hto.sz]; exact q3 (hto.box ▸ hb), fun e' he' => ?_, fun i e' j x' hi hj => ?_⟩
  ·show S'.w.heap[S.β (.loc k)]? = _
   rw [hsame _ (h.sim.lt ho) (hnob k o ho), hto.ty]; exact q1
  ·obtain ⟨i, hi⟩ := List.mem_iff_getElem?.1 he'
   have hil : i < o.es.length := by rw [← hto.len]; exact (List.getElem?_eq_some_iff.1 hi).1
   rw [hto.el i _ e' (List.getElem?_eq_getElem hil) hi, hto.sz]
   exact q4 _ (List.getElem_mem hil)
  have hil : i < o.es.length := by rw [← hto.len]; exact (List.getElem?_eq_some_iff.1 hi).1
  have hie := List.getElem?_eq_getElem hil
  have hjl : j < (o.es[i]).length := by rw [← hto.el i _ e' hie hi]; exact (List.getElem?_eq_some_iff.1 hj).1
  have hje := List.getElem?_eq_getElem hjl
  obtain ⟨r1, u, r2, r3, r4⟩ := q5 i _ j _ hie hje
  obtain ⟨t1, t2, t3⟩ := hto.cell i _ e' j _ x' hie hi hje hj
  refine ⟨t2, u, by rw [hto.sz]; exact r2, htn t1 r3, fun hb => ?_⟩
  rw [hto.box] at hb
  obtain ⟨e, hav⟩ := t3 hb
  rw [e]
  exact (r4 hb).av hkp h.sim hav
 ·obtain ⟨p, hp⟩ := Option.isSome_iff_exists.1 hx'
  obtain ⟨p', hp'⟩ := Option.isSome_iff_exists.1 hy'
  obtain ⟨k, o, rfl, ho, _⟩ := hO'' x p hp
  obtain ⟨k', o2, rfl, ho2, _⟩ := hO'' y p' hp'
  exact h.sim.inj _ _ (by rw [ho]; rfl) (by rw [ho2]; rfl) hxy
 ·obtain ⟨p, hp⟩ := Option.isSome_iff_exists.1 hx'
  obtain ⟨k, o, rfl, ho, _⟩ := hO'' x p hp
  rw [show S''.B0 = S.B0 from hx.B0]
  exact h.sim.base _ (by rw [ho]; rfl)
 ·cases hq : S''.O x with
  | none => rfl
  | some o' =>
   obtain ⟨k, o, rfl, ho, _⟩ := hO'' x o' hq
   rw [h.sim.hid _ z hz] at ho; cases ho
 ·obtain ⟨v, hv, ht⟩ := henv.get i v' hv'
  obtain ⟨u, hu, hr⟩ := h.env i v hv
  exact ⟨u, hu, htn ht hr⟩
 ·-- what the start of the call asks
  obtain ⟨w0, c0, e0⟩ := h.ext
  have hn : C.S0.w.heap.size ≤ S.w.heap.size := by rw [← c0.size]; exact e0.size
  refine ⟨{ C.S0.w with heap := S'.w.heap.extract 0 C.S0.w.heap.size }, ⟨rfl, ?_, fun b hb => ?_⟩, ⟨?_, ?_, ?_, ?_, ?_, Nat.le_trans e0.tk hx.tk, fun t ht => ?_, fun b hb => ?_⟩, fun x o hx => ?_, fun x _ => ?_, fun x z hz => ?_, rfl, rfl, fun t h1 h2 => ?_⟩
  ·show (S'.w.heap.extract 0 C.S0.w.heap.size).size = _
   simp; omega
  ·show (S'.w.heap.extract 0 C.S0.w.heap.size)[b]? = _
   rw [pre_get]
   by_cases hbn : b < C.S0.w.heap.size
   ·rw [if_pos hbn]
    rw [hsame b (by omega) fun t h1 h2 h3 e => ?_]
    ·have := (e0.con b ⟨by rw [show ({ C.S0 with w := w0 } : Sit).w.heap.size = w0.heap.size from rfl, c0.size]; exact hbn, fun ⟨x, hx, _⟩ => by rw [show ({ C.S0 with w := w0 } : Sit).O x = C.S0.O x from rfl, hS0] at hx; cases hx⟩).2
     exact (show S.w.heap[b]? = w0.heap[b]? from this).trans (c0.same b hb)
    have h3' : t < σ.tk := by rw [← h.tk]; exact h3
    have hold : ¬ C.S0.tk ≤ t := fun hle => by
     have := e0.fresh t hle h3
     rw [show ({ C.S0 with w := w0 } : Sit).w.heap.size = w0.heap.size from rfl, c0.size] at this
     have h4 : C.S0.w.heap.size ≤ S.τ t := this
     omega
    rcases hT t h1 h2 h3' with hc | hc
    ·exact hb t hc h2 (by omega) ((e0.tau t (by show t < C.S0.tk; omega)).symm.trans e)
    exact hold hc
   rw [if_neg hbn, Array.getElem?_eq_none (by omega)]
  ·show (S'.w.heap.extract 0 C.S0.w.heap.size).size ≤ S'.w.heap.size
   simp; omega
  ·have := hx.os.trans e0.os; rw [show ({ C.S0 with w := w0 } : Sit).w.os = C.S0.w.os from by show w0.os = _; rw [c0.rest]] at this; exact this
  ·have := hx.tape.trans e0.tape; rw [show ({ C.S0 with w := w0 } : Sit).w.tape = C.S0.w.tape from by show w0.tape = _; rw [c0.rest]] at this; exact this
  ·have := hx.output.trans e0.output; rw [show ({ C.S0 with w := w0 } : Sit).w.output = C.S0.w.output from by show w0.output = _; rw [c0.rest]] at this; exact this
  ·exact hx.B0.trans e0.B0
  ·exact (htau t (Nat.lt_of_lt_of_le ht e0.tk)).trans (e0.tau t ht)
  ·have hbn : b < C.S0.w.heap.size := by
    have := hb.1
    rw [show ({ C.S0 with w := { C.S0.w with heap := S'.w.heap.extract 0 C.S0.w.heap.size } } : Sit).w.heap.size = (S'.w.heap.extract 0 C.S0.w.heap.size).size from rfl] at this
    simp at this; omega
   refine ⟨⟨by show b < S'.w.heap.size; omega, fun ⟨x, hx, _⟩ => ?_⟩, ?_⟩
   ·have hx' : (OB C.bor ([] : List Obj) (fun _ => none) x).isSome = true := hx
    rw [OB_not (by rw [hbor]; exact List.not_mem_nil)] at hx'
    cases hx'
   show S'.w.heap[b]? = (S'.w.heap.extract 0 C.S0.w.heap.size)[b]?
   rw [pre_get, if_pos hbn]
  ·have hx' : C.S0.O x = some o := hx
   rw [hS0] at hx'; cases hx'
  ·show OB C.bor ([] : List Obj) (fun _ => none) x = none
   rw [OB_not (by rw [hbor]; exact List.not_mem_nil)]
  ·exact ⟨hz, (e0.hid x z hz).2⟩
  show (S'.w.heap.extract 0 C.S0.w.heap.size).size ≤ S'.τ t
  have hsz : (S'.w.heap.extract 0 C.S0.w.heap.size).size = C.S0.w.heap.size := by simp; omega
  rw [hsz]
  by_cases ht : t < S.tk
  ·rw [htau t ht]
   have := e0.fresh t h1 ht
   rw [show ({ C.S0 with w := w0 } : Sit).w.heap.size = w0.heap.size from rfl, c0.size] at this
   exact this
  have := hx.fresh t (by show S.tk ≤ t; omega) h2
  exact Nat.le_trans hn this
 ·obtain ⟨o', ho'⟩ := Option.isSome_iff_exists.1 hi
  obtain ⟨o, ho, _⟩ := (hl.get i).1 o' ho'
  exact h.new i (by rw [ho]; rfl)
 rw [hbor] at hi; cases hi

end Go.Am

/- Calls that turn memory in place: the contract, how it is shown, how it is used; a store into such memory. -/
namespace Go.Am
open Go

def MCalls (P : Program) (f : FuncId) (args : List AV) (tk : Nat) (T : Nat → Prop) (R : Out → Sit → Prop) : Prop :=
 (∃ fn c, P.funcs[f]? = some fn ∧ (fn.name == "runtime.NumGoroutine") = false ∧ fn.body = some c) ∧
 ∀ (S : Sit) (us : Array Value), S.O = (fun _ => none) → S.tk = tk → SimH S → Inv S.B0 S.w → us.size = args.length → (∀ j v, args[j]? = some v → RepC S v (us.getD j undef)) →
  Calls P f us S.w fun e w' => ∃ out S', S'.w = w' ∧ SimH S' ∧ ExtT T S S' ∧ RepOut S S' out e ∧ R out S'

theorem MCalls.mono {P : Program} {f : FuncId} {args : List AV} {tk : Nat} {T : Nat → Prop} {R R' : Out → Sit → Prop} (h : MCalls P f args tk T R) (hr : ∀ out S', R out S' → R' out S') : MCalls P f args tk T R' :=
 ⟨h.1, fun S us h1 h2 h3 hi h4 h5 => (h.2 S us h1 h2 h3 hi h4 h5).mono fun _ _ ⟨out, S', q1, q2, q3, q4, q5⟩ => ⟨out, S', q1, q2, q3, q4, hr _ _ q5⟩⟩

end Go.Am

/- Trees, forms, proofs as a law marks them in place: every number, every name, from k on. -/
namespace Go.Am
open Go

def nx (k : Int) : Int := IntKind.i64.wrap (k + 1)

mutual
def LF.mark : LF → Int → LF × Int
 | .mk _ _ q f ks, k => (.mk k (nx k) q f (lfmarks ks (nx (nx k))).1, (lfmarks ks (nx (nx k))).2)
def lfmarks : List LF → Int → List LF × Int
 | [], k => ([], k)
 | t :: r, k => ((t.mark k).1 :: (lfmarks r (t.mark k).2).1, (lfmarks r (t.mark k).2).2)
end

mutual
def LT.mark (mt : Int → ByteArray) : LT → Int → LT × Int
 | .mk _ _ _ q f ks, k => (.mk k (nx k) (mt (nx (nx k))) q f (ltmarks mt ks (nx (nx (nx k)))).1, (ltmarks mt ks (nx (nx (nx k)))).2)
def ltmarks (mt : Int → ByteArray) : List LT → Int → List LT × Int
 | [], k => ([], k)
 | t :: r, k => ((t.mark mt k).1 :: (ltmarks mt r (t.mark mt k).2).1, (ltmarks mt r (t.mark mt k).2).2)
end

mutual
def LP.mark : LP → Int → LP × Int
 | .mk _ _ q1 f1 fs q f ks, k => (.mk k (nx k) q1 f1 (lfmarks fs (nx (nx k))).1 q f (lpmarks ks (lfmarks fs (nx (nx k))).2).1, (lpmarks ks (lfmarks fs (nx (nx k))).2).2)
def lpmarks : List LP → Int → List LP × Int
 | [], k => ([], k)
 | t :: r, k => ((t.mark k).1 :: (lpmarks r (t.mark k).2).1, (lpmarks r (t.mark k).2).2)
end

theorem lfmarks_len : ∀ (a : List LF) (k : Int), (lfmarks a k).1.length = a.length
 | [], k => rfl
 | t :: r, k => by simp only [lfmarks, List.length_cons, lfmarks_len r]
theorem ltmarks_len (mt : Int → ByteArray) : ∀ (a : List LT) (k : Int), (ltmarks mt a k).1.length = a.length
 | [], k => rfl
 | t :: r, k => by simp only [ltmarks, List.length_cons, ltmarks_len mt r]
theorem lpmarks_len : ∀ (a : List LP) (k : Int), (lpmarks a k).1.length = a.length
 | [], k => rfl
 | t :: r, k => by simp only [lpmarks, List.length_cons, lpmarks_len r]

mutual
theorem LF.mark_toks : ∀ (t : LF) (k : Int), (t.mark k).1.toks = t.toks
 | .mk a b q f [], k => by simp only [LF.mark, lfmarks, LF.toks]
 | .mk a b q f (t :: r), k => by simp only [LF.mark, lfmarks, LF.toks, LF.mark_toks t, lfmarks_toks r]
theorem lfmarks_toks : ∀ (a : List LF) (k : Int), ftoks (lfmarks a k).1 = ftoks a
 | [], k => rfl
 | t :: r, k => by simp only [lfmarks, ftoks, LF.mark_toks t, lfmarks_toks r]
end
mutual
theorem LT.mark_toks (mt : Int → ByteArray) : ∀ (t : LT) (k : Int), (t.mark mt k).1.toks = t.toks
 | .mk a b s q f [], k => by simp only [LT.mark, ltmarks, LT.toks]
 | .mk a b s q f (t :: r), k => by simp only [LT.mark, ltmarks, LT.toks, LT.mark_toks mt t, ltmarks_toks mt r]
theorem ltmarks_toks (mt : Int → ByteArray) : ∀ (a : List LT) (k : Int), ttoks (ltmarks mt a k).1 = ttoks a
 | [], k => rfl
 | t :: r, k => by simp only [ltmarks, ttoks, LT.mark_toks mt t, ltmarks_toks mt r]
end
theorem lfmarks_stoks (q : Nat) (a : List LF) (k : Int) : fstoks q (lfmarks a k).1 = fstoks q a := by
 cases a with
 | nil => rfl
 | cons t r => simp only [lfmarks, fstoks, ftoks, LF.mark_toks, lfmarks_toks]
theorem ltmarks_stoks (mt : Int → ByteArray) (q : Nat) (a : List LT) (k : Int) : tstoks q (ltmarks mt a k).1 = tstoks q a := by
 cases a with
 | nil => rfl
 | cons t r => simp only [ltmarks, tstoks, ttoks, LT.mark_toks, ltmarks_toks]
mutual
theorem LP.mark_toks : ∀ (t : LP) (k : Int), (t.mark k).1.toks = t.toks
 | .mk a b q1 f1 fs q f [], k => by simp only [LP.mark, lpmarks, LP.toks, lfmarks_stoks]
 | .mk a b q1 f1 fs q f (t :: r), k => by simp only [LP.mark, lpmarks, LP.toks, LP.mark_toks t, lpmarks_toks r, lfmarks_stoks]
theorem lpmarks_toks : ∀ (a : List LP) (k : Int), ptoks (lpmarks a k).1 = ptoks a
 | [], k => rfl
 | t :: r, k => by simp only [lpmarks, ptoks, LP.mark_toks t, lpmarks_toks r]
end
theorem lpmarks_stoks (q : Nat) (a : List LP) (k : Int) : pstoks q (lpmarks a k).1 = pstoks q a := by
 cases a with
 | nil => rfl
 | cons t r => simp only [lpmarks, pstoks, ptoks, LP.mark_toks, lpmarks_toks]


mutual
theorem LF.av {p : Nat → Prop} : ∀ (t : LF), (∀ x ∈ t.toks, p x) → ∀ (j : Nat) (x : AV), t.cells[j]? = some x → AvP p x
 | .mk k n q f ks, h, j, x, hj => by
  rw [LF.toks_eq] at h
  match j, hj with
  | 0, hj => cases hj; exact .int _ _
  | 1, hj => cases hj; exact .int _ _
  | 2, hj =>
   cases hj
   exact .imm _ _ _ _ (fun hne => h q (by cases ks with | nil => exact absurd rfl hne | cons t r => exact List.mem_cons_self ..)) (fcellss_av ks fun x hx => h x (by cases ks with | nil => cases hx | cons t r => exact List.mem_cons_of_mem _ hx))
  | j + 3, hj => simp [LF.cells] at hj
theorem fcellss_av {p : Nat → Prop} : ∀ (ks : List LF), (∀ x ∈ ftoks ks, p x) → ∀ (i : Nat) (e : List AV) (j : Nat) (x : AV), (fcellss ks)[i]? = some e → e[j]? = some x → AvP p x
 | [], _, i, e, j, x, hi, _ => by simp [fcellss] at hi
 | t :: r, h, i, e, j, x, hi, hj => by
  simp only [ftoks, List.mem_append] at h
  cases i with
  | zero => simp [fcellss] at hi; subst hi; exact LF.av t (fun x hx => h x (.inl hx)) j x hj
  | succ i => simp [fcellss] at hi; exact fcellss_av r (fun x hx => h x (.inr hx)) i e j x hi hj
end
theorem fs_av {p : Nat → Prop} {q : Nat} {f : Bool} {ks : List LF} (h : ∀ x ∈ fstoks q ks, p x) : AvP p (.imm q 3 f (fcellss ks)) :=
 .imm _ _ _ _ (fun hne => h q (by cases ks with | nil => exact absurd rfl hne | cons t r => exact List.mem_cons_self ..)) (fcellss_av ks fun x hx => h x (by cases ks with | nil => cases hx | cons t r => exact List.mem_cons_of_mem _ hx))

mutual
theorem LT.av {p : Nat → Prop} : ∀ (t : LT), (∀ x ∈ t.toks, p x) → ∀ (j : Nat) (x : AV), t.cells[j]? = some x → AvP p x
 | .mk k n s q f ks, h, j, x, hj => by
  rw [LT.toks_eq] at h
  match j, hj with
  | 0, hj => cases hj; exact .int _ _
  | 1, hj => cases hj; exact .int _ _
  | 2, hj => cases hj; exact .str _
  | 3, hj =>
   cases hj
   exact .imm _ _ _ _ (fun hne => h q (by cases ks with | nil => exact absurd rfl hne | cons t r => exact List.mem_cons_self ..)) (cellss_av ks fun x hx => h x (by cases ks with | nil => cases hx | cons t r => exact List.mem_cons_of_mem _ hx))
  | j + 4, hj => simp [LT.cells] at hj
theorem cellss_av {p : Nat → Prop} : ∀ (ks : List LT), (∀ x ∈ ttoks ks, p x) → ∀ (i : Nat) (e : List AV) (j : Nat) (x : AV), (cellss ks)[i]? = some e → e[j]? = some x → AvP p x
 | [], _, i, e, j, x, hi, _ => by simp [cellss] at hi
 | t :: r, h, i, e, j, x, hi, hj => by
  simp only [ttoks, List.mem_append] at h
  cases i with
  | zero => simp [cellss] at hi; subst hi; exact LT.av t (fun x hx => h x (.inl hx)) j x hj
  | succ i => simp [cellss] at hi; exact cellss_av r (fun x hx => h x (.inr hx)) i e j x hi hj
end
theorem ts_av {p : Nat → Prop} {q : Nat} {f : Bool} {ks : List LT} (h : ∀ x ∈ tstoks q ks, p x) : AvP p (.imm q 4 f (cellss ks)) :=
 .imm _ _ _ _ (fun hne => h q (by cases ks with | nil => exact absurd rfl hne | cons t r => exact List.mem_cons_self ..)) (cellss_av ks fun x hx => h x (by cases ks with | nil => cases hx | cons t r => exact List.mem_cons_of_mem _ hx))

mutual
theorem LP.av {p : Nat → Prop} : ∀ (t : LP), (∀ x ∈ t.toks, p x) → ∀ (j : Nat) (x : AV), t.cells[j]? = some x → AvP p x
 | .mk k n q1 f1 fs q f ks, h, j, x, hj => by
  rw [LP.toks_eq] at h
  simp only [List.mem_append] at h
  match j, hj with
  | 0, hj => cases hj; exact .int _ _
  | 1, hj => cases hj; exact .int _ _
  | 2, hj => cases hj; exact fs_av fun x hx => h x (.inl hx)
  | 3, hj =>
   cases hj
   exact .imm _ _ _ _ (fun hne => h q (.inr (by cases ks with | nil => exact absurd rfl hne | cons t r => exact List.mem_cons_self ..))) (pcellss_av ks fun x hx => h x (.inr (by cases ks with | nil => cases hx | cons t r => exact List.mem_cons_of_mem _ hx)))
  | j + 4, hj => simp [LP.cells] at hj
theorem pcellss_av {p : Nat → Prop} : ∀ (ks : List LP), (∀ x ∈ ptoks ks, p x) → ∀ (i : Nat) (e : List AV) (j : Nat) (x : AV), (pcellss ks)[i]? = some e → e[j]? = some x → AvP p x
 | [], _, i, e, j, x, hi, _ => by simp [pcellss] at hi
 | t :: r, h, i, e, j, x, hi, hj => by
  simp only [ptoks, List.mem_append] at h
  cases i with
  | zero => simp [pcellss] at hi; subst hi; exact LP.av t (fun x hx => h x (.inl hx)) j x hj
  | succ i => simp [pcellss] at hi; exact pcellss_av r (fun x hx => h x (.inr hx)) i e j x hi hj
end
theorem ps_av {p : Nat → Prop} {q : Nat} {f : Bool} {ks : List LP} (h : ∀ x ∈ pstoks q ks, p x) : AvP p (.imm q 4 f (pcellss ks)) :=
 .imm _ _ _ _ (fun hne => h q (by cases ks with | nil => exact absurd rfl hne | cons t r => exact List.mem_cons_self ..)) (pcellss_av ks fun x hx => h x (by cases ks with | nil => cases hx | cons t r => exact List.mem_cons_of_mem _ hx))

theorem TnC.row {T : Nat → Prop} {G : AV → AV → Prop} {q sz : Nat} {f : Bool} {es : List (List AV)} {n : Nat} {e e' : List AV} (hn : es[n]? = some e) (hq : q = 0 ∨ (2 ≤ q ∧ ¬ T q)) (hl : e'.length = e.length)
  (hd : ∀ (i : Nat) (e : List AV) (j : Nat) (x : AV), (es.set n e')[i]? = some e → e[j]? = some x → x.d1 = true)
  (hrest : ∀ (i : Nat) (e : List AV) (j : Nat) (x : AV), i ≠ n → es[i]? = some e → e[j]? = some x → AvC T x)
  (hel : ∀ (j : Nat) (x x' : AV), e[j]? = some x → e'[j]? = some x' → TnC T G x x') : TnC T G (.imm q sz f es) (.imm q sz f (es.set n e')) := by
 have hlt := (List.getElem?_eq_some_iff.1 hn).1
 refine .imm q sz f es (es.set n e') (by simp) hq (fun i a a' hi hi' => ?_) hd (fun i a a' j x x' hi hi' hj hj' => ?_)
 ·by_cases hin : i = n
  ·subst hin
   rw [List.getElem?_set_self hlt] at hi'
   rw [hn] at hi
   cases hi; cases hi'; exact hl
  rw [List.getElem?_set_ne (Ne.symm hin), hi] at hi'
  cases hi'; rfl
 by_cases hin : i = n
 ·subst hin
  rw [List.getElem?_set_self hlt] at hi'
  rw [hn] at hi
  cases hi; cases hi'; exact hel j x x' hj hj'
 rw [List.getElem?_set_ne (Ne.symm hin), hi] at hi'
 cases hi'
 rw [hj] at hj'
 cases hj'
 exact .av _ (hrest i a j x hin hi hj)

end Go.Am

/- What a law's marking comes to; small rules for it. -/
namespace Go.Am
open Go

def LF.kids : LF → List LF
 | .mk _ _ _ _ ks => ks
def LT.kids : LT → List LT
 | .mk _ _ _ _ _ ks => ks
def LP.kids : LP → List LP
 | .mk _ _ _ _ _ _ _ ks => ks
def LP.forms : LP → List LF
 | .mk _ _ _ _ fs _ _ _ => fs

def FMarked (tk q : Nat) (f : Bool) (ks : List LF) (k : Int) (out : Out) (S' : Sit) : Prop :=
 out = .ret (.int .i64 (lfmarks ks k).2) ∧ tk ≤ S'.tk ∧ ∃ u, RepC S' (.imm q 3 f (fcellss (lfmarks ks k).1)) u
def TMarked (mt : Int → ByteArray) (tk q : Nat) (f : Bool) (ks : List LT) (k : Int) (out : Out) (S' : Sit) : Prop :=
 out = .ret (.int .i64 (ltmarks mt ks k).2) ∧ tk ≤ S'.tk ∧ ∃ u, RepC S' (.imm q 4 f (cellss (ltmarks mt ks k).1)) u
def PMarked (tk q : Nat) (f : Bool) (ks : List LP) (k : Int) (out : Out) (S' : Sit) : Prop :=
 out = .ret (.int .i64 (lpmarks ks k).2) ∧ tk ≤ S'.tk ∧ ∃ u, RepC S' (.imm q 4 f (pcellss (lpmarks ks k).1)) u

end Go.Am

/- Marks, said of trees without the names of their memory; how a law's state moves over a call that marks. -/
namespace Go.Am
open Go

mutual
def F.mark : F → Int → F × Int
 | .mk _ _ ks, k => (.mk k (nx k) (fmarks ks (nx (nx k))).1, (fmarks ks (nx (nx k))).2)
def fmarks : List F → Int → List F × Int
 | [], k => ([], k)
 | t :: r, k => ((t.mark k).1 :: (fmarks r (t.mark k).2).1, (fmarks r (t.mark k).2).2)
end
mutual
def T.mark (mt : Int → ByteArray) : T → Int → T × Int
 | .mk _ _ _ ks, k => (.mk k (nx k) (mt (nx (nx k))) (tmarks mt ks (nx (nx (nx k)))).1, (tmarks mt ks (nx (nx (nx k)))).2)
def tmarks (mt : Int → ByteArray) : List T → Int → List T × Int
 | [], k => ([], k)
 | t :: r, k => ((t.mark mt k).1 :: (tmarks mt r (t.mark mt k).2).1, (tmarks mt r (t.mark mt k).2).2)
end
mutual
def Pf.mark : Pf → Int → Pf × Int
 | .mk _ _ fs ks, k => (.mk k (nx k) (fmarks fs (nx (nx k))).1 (pmarks ks (fmarks fs (nx (nx k))).2).1, (pmarks ks (fmarks fs (nx (nx k))).2).2)
def pmarks : List Pf → Int → List Pf × Int
 | [], k => ([], k)
 | t :: r, k => ((t.mark k).1 :: (pmarks r (t.mark k).2).1, (pmarks r (t.mark k).2).2)
end

mutual
theorem LF.mark_er : ∀ (t : LF) (k : Int), (t.mark k).1.er = (t.er.mark k).1 ∧ (t.mark k).2 = (t.er.mark k).2
 | .mk a b q f ks, k => by
  have h := lfmarks_er ks (nx (nx k))
  simp only [LF.mark, LF.er, F.mark, h.1, h.2, and_self]
theorem lfmarks_er : ∀ (a : List LF) (k : Int), fers (lfmarks a k).1 = (fmarks (fers a) k).1 ∧ (lfmarks a k).2 = (fmarks (fers a) k).2
 | [], k => ⟨rfl, rfl⟩
 | t :: r, k => by
  have h := LF.mark_er t k
  have h2 := lfmarks_er r (t.er.mark k).2
  simp only [lfmarks, fers, fmarks, h.1, h2.1, h2.2, h.2, and_self]
end
mutual
theorem LT.mark_er (mt : Int → ByteArray) : ∀ (t : LT) (k : Int), (t.mark mt k).1.er = (t.er.mark mt k).1 ∧ (t.mark mt k).2 = (t.er.mark mt k).2
 | .mk a b s q f ks, k => by
  have h := ltmarks_er mt ks (nx (nx (nx k)))
  simp only [LT.mark, LT.er, T.mark, h.1, h.2, and_self]
theorem ltmarks_er (mt : Int → ByteArray) : ∀ (a : List LT) (k : Int), ers (ltmarks mt a k).1 = (tmarks mt (ers a) k).1 ∧ (ltmarks mt a k).2 = (tmarks mt (ers a) k).2
 | [], k => ⟨rfl, rfl⟩
 | t :: r, k => by
  have h := LT.mark_er mt t k
  have h2 := ltmarks_er mt r (t.er.mark mt k).2
  simp only [ltmarks, ers, tmarks, h.1, h2.1, h2.2, h.2, and_self]
end
mutual
theorem LP.mark_er : ∀ (t : LP) (k : Int), (t.mark k).1.er = (t.er.mark k).1 ∧ (t.mark k).2 = (t.er.mark k).2
 | .mk a b q1 f1 fs q f ks, k => by
  have h := lfmarks_er fs (nx (nx k))
  have h2 := lpmarks_er ks (fmarks (fers fs) (nx (nx k))).2
  simp only [LP.mark, LP.er, Pf.mark, h.1, h2.1, h2.2, h.2, and_self]
theorem lpmarks_er : ∀ (a : List LP) (k : Int), pers (lpmarks a k).1 = (pmarks (pers a) k).1 ∧ (lpmarks a k).2 = (pmarks (pers a) k).2
 | [], k => ⟨rfl, rfl⟩
 | t :: r, k => by
  have h := LP.mark_er t k
  have h2 := lpmarks_er r (t.er.mark k).2
  simp only [lpmarks, pers, pmarks, h.1, h2.1, h2.2, h.2, and_self]
end

def FMk (tk q : Nat) (f : Bool) (ks : List LF) (r : List F × Int) (out : Out) (S' : Sit) : Prop :=
 ∃ ks' k', r = (fers ks', k') ∧ out = .ret (.int .i64 k') ∧ tk ≤ S'.tk ∧ fstoks q ks' = fstoks q ks ∧ ks'.length = ks.length ∧ ∃ u, RepC S' (.imm q 3 f (fcellss ks')) u
def TMk (tk q : Nat) (f : Bool) (ks : List LT) (r : List T × Int) (out : Out) (S' : Sit) : Prop :=
 ∃ ks' k', r = (ers ks', k') ∧ out = .ret (.int .i64 k') ∧ tk ≤ S'.tk ∧ tstoks q ks' = tstoks q ks ∧ ks'.length = ks.length ∧ ∃ u, RepC S' (.imm q 4 f (cellss ks')) u
def PMk (tk q : Nat) (f : Bool) (ks : List LP) (r : List Pf × Int) (out : Out) (S' : Sit) : Prop :=
 ∃ ks' k', r = (pers ks', k') ∧ out = .ret (.int .i64 k') ∧ tk ≤ S'.tk ∧ pstoks q ks' = pstoks q ks ∧ ks'.length = ks.length ∧ ∃ u, RepC S' (.imm q 4 f (pcellss ks')) u

theorem FMarked.mk {tk q : Nat} {f : Bool} {ks : List LF} {k : Int} {r : List F × Int} (hr : some (fmarks (fers ks) k) = some r) {out : Out} {S' : Sit} (h : FMarked tk q f ks k out S') : FMk tk q f ks r out S' := by
 obtain ⟨h1, h2, h3⟩ := h
 obtain rfl := some_t hr
 exact ⟨_, _, Prod.ext (lfmarks_er ks k).1.symm (lfmarks_er ks k).2.symm, h1, h2, lfmarks_stoks .., lfmarks_len .., h3⟩
theorem TMarked.mk {mt : Int → ByteArray} {tk q : Nat} {f : Bool} {ks : List LT} {k : Int} {r : List T × Int} (hr : some (tmarks mt (ers ks) k) = some r) {out : Out} {S' : Sit} (h : TMarked mt tk q f ks k out S') : TMk tk q f ks r out S' := by
 obtain ⟨h1, h2, h3⟩ := h
 obtain rfl := some_t hr
 exact ⟨_, _, Prod.ext (ltmarks_er mt ks k).1.symm (ltmarks_er mt ks k).2.symm, h1, h2, ltmarks_stoks .., ltmarks_len .., h3⟩
theorem PMarked.mk {tk q : Nat} {f : Bool} {ks : List LP} {k : Int} {r : List Pf × Int} (hr : some (pmarks (pers ks) k) = some r) {out : Out} {S' : Sit} (h : PMarked tk q f ks k out S') : PMk tk q f ks r out S' := by
 obtain ⟨h1, h2, h3⟩ := h
 obtain rfl := some_t hr
 exact ⟨_, _, Prod.ext (lpmarks_er ks k).1.symm (lpmarks_er ks k).2.symm, h1, h2, lpmarks_stoks .., lpmarks_len .., h3⟩

def GF (q : Nat) (f : Bool) (ks ks' : List LF) (v v' : AV) : Prop := ks ≠ [] ∧ v = .imm q 3 f (fcellss ks) ∧ v' = .imm q 3 f (fcellss ks')
def GT (q : Nat) (f : Bool) (ks ks' : List LT) (v v' : AV) : Prop := ks ≠ [] ∧ v = .imm q 4 f (cellss ks) ∧ v' = .imm q 4 f (cellss ks')
def GP (q : Nat) (f : Bool) (ks ks' : List LP) (v v' : AV) : Prop := ks ≠ [] ∧ v = .imm q 4 f (pcellss ks) ∧ v' = .imm q 4 f (pcellss ks')

theorem GF.turned {q : Nat} {f : Bool} {ks ks' : List LF} {S' : Sit} (h2 : ∀ x ∈ fstoks q ks, 2 ≤ x) (hs : fstoks q ks' = fstoks q ks) (hl : ks'.length = ks.length) (hu : ∃ u, RepC S' (.imm q 3 f (fcellss ks')) u) :
  ∀ v v', GF q f ks ks' v v' → Turned S' v v' := by
 rintro v v' ⟨hne, rfl, rfl⟩
 refine ⟨q, 3, f, _, _, rfl, rfl, by rw [fcellss_length, fcellss_length, hl], h2 q ?_, fs_av fun x hx => h2 x (by rw [hs] at hx; exact hx), hu⟩
 cases ks with
 | nil => exact absurd rfl hne
 | cons t r => exact List.mem_cons_self ..
theorem GT.turned {q : Nat} {f : Bool} {ks ks' : List LT} {S' : Sit} (h2 : ∀ x ∈ tstoks q ks, 2 ≤ x) (hs : tstoks q ks' = tstoks q ks) (hl : ks'.length = ks.length) (hu : ∃ u, RepC S' (.imm q 4 f (cellss ks')) u) :
  ∀ v v', GT q f ks ks' v v' → Turned S' v v' := by
 rintro v v' ⟨hne, rfl, rfl⟩
 refine ⟨q, 4, f, _, _, rfl, rfl, by rw [cellss_length, cellss_length, hl], h2 q ?_, ts_av fun x hx => h2 x (by rw [hs] at hx; exact hx), hu⟩
 cases ks with
 | nil => exact absurd rfl hne
 | cons t r => exact List.mem_cons_self ..
theorem GP.turned {q : Nat} {f : Bool} {ks ks' : List LP} {S' : Sit} (h2 : ∀ x ∈ pstoks q ks, 2 ≤ x) (hs : pstoks q ks' = pstoks q ks) (hl : ks'.length = ks.length) (hu : ∃ u, RepC S' (.imm q 4 f (pcellss ks')) u) :
  ∀ v v', GP q f ks ks' v v' → Turned S' v v' := by
 rintro v v' ⟨hne, rfl, rfl⟩
 refine ⟨q, 4, f, _, _, rfl, rfl, by rw [pcellss_length, pcellss_length, hl], h2 q ?_, ps_av fun x hx => h2 x (by rw [hs] at hx; exact hx), hu⟩
 cases ks with
 | nil => exact absurd rfl hne
 | cons t r => exact List.mem_cons_self ..
theorem GF.tn {T : Nat → Prop} {q : Nat} {f : Bool} {ks ks' : List LF} (hl : ks'.length = ks.length) : Tn T (GF q f ks ks') (.imm q 3 f (fcellss ks)) (.imm q 3 f (fcellss ks')) := by
 cases ks with
 | nil =>
  have : ks' = [] := List.length_eq_zero_iff.1 hl
  subst this
  exact Tn.av (.imm _ _ _ _ (fun h => absurd rfl h) (fun i e j x hi => by simp [fcellss] at hi))
 | cons t r => exact Tn.turn ⟨List.cons_ne_nil _ _, rfl, rfl⟩
theorem GT.tn {T : Nat → Prop} {q : Nat} {f : Bool} {ks ks' : List LT} (hl : ks'.length = ks.length) : Tn T (GT q f ks ks') (.imm q 4 f (cellss ks)) (.imm q 4 f (cellss ks')) := by
 cases ks with
 | nil =>
  have : ks' = [] := List.length_eq_zero_iff.1 hl
  subst this
  exact Tn.av (.imm _ _ _ _ (fun h => absurd rfl h) (fun i e j x hi => by simp [cellss] at hi))
 | cons t r => exact Tn.turn ⟨List.cons_ne_nil _ _, rfl, rfl⟩
theorem GP.tn {T : Nat → Prop} {q : Nat} {f : Bool} {ks ks' : List LP} (hl : ks'.length = ks.length) : Tn T (GP q f ks ks') (.imm q 4 f (pcellss ks)) (.imm q 4 f (pcellss ks')) := by
 cases ks with
 | nil =>
  have : ks' = [] := List.length_eq_zero_iff.1 hl
  subst this
  exact Tn.av (.imm _ _ _ _ (fun h => absurd rfl h) (fun i e j x hi => by simp [pcellss] at hi))
 | cons t r => exact Tn.turn ⟨List.cons_ne_nil _ _, rfl, rfl⟩

inductive TnCs (T : Nat → Prop) (G : AV → AV → Prop) : List AV → List AV → Prop
 | nil : TnCs T G [] []
 | cons (v v' r r') (h : Tn T G v v') (t : TnCs T G r r') : TnCs T G (v :: r) (v' :: r')
theorem TnCs.len {T : Nat → Prop} {G : AV → AV → Prop} {a b : List AV} (h : TnCs T G a b) : b.length = a.length := by
 induction h with
 | nil => rfl
 | cons v v' r r' h t ih => simp [ih]
theorem TnCs.at_ {T : Nat → Prop} {G : AV → AV → Prop} {a b : List AV} (h : TnCs T G a b) : ∀ (j : Nat) (x x' : AV), a[j]? = some x → b[j]? = some x' → Tn T G x x' := by
 induction h with
 | nil => intro j x x' h; simp at h
 | cons v v' r r' h t ih =>
  intro j x x' h1 h2
  cases j with
  | zero => cases h1; cases h2; exact h
  | succ j => exact ih j x x' (by simpa using h1) (by simpa using h2)
theorem TnCs.agg {T : Nat → Prop} {G : AV → AV → Prop} {a b : List AV} (h : TnCs T G a b) (hd : alld1 b = true) : Tn T G (.agg a) (.agg b) := .agg a b h.len (alld1_at hd) h.at_
theorem TnCs.box {T : Nat → Prop} {G : AV → AV → Prop} {a b : List AV} (h : TnCs T G a b) (hd : alld1 b = true) {ty : TypeId} {sz : Nat} : TnO T G ⟨ty, sz, true, [a]⟩ ⟨ty, sz, true, [b]⟩ := TnO.one h.len hd h.at_

theorem Fr.ext {lo hi : Nat} {l l' : List Nat} (h : Fr lo hi l) (e : l' = l) : Fr lo hi l' := by rw [e]; exact h

end Go.Am
