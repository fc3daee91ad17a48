/- Calls that may stop; a function's entry with deferred calls about; several pointers. -/
import Derived.Test.YtoajlhhalpldfaaGreatDoorMi2
import Derived.Defers
import Derived.Laws.Slices
import Derived.Laws.CopyRow
namespace Go.Am
open Go

inductive Rz (α : Type) where
 | ok (a : α)
 | stop (c p : Int)

def Rz.bd {α β : Type} (z : Rz α) (k : α → Option (Rz β)) : Option (Rz β) := match z with
 | .ok a => k a
 | .stop c p => some (.stop c p)
def Rz.cs {α β : Type} (z : Rz α) (k : α → β) (g : Int → Int → β) : β := match z with
 | .ok a => k a
 | .stop c p => g c p
def zb {α β : Type} (x : Option (Rz α)) (k : α → Option (Rz β)) : Option (Rz β) := x.bind fun z => z.bd k
theorem zb_t {α β : Type} {x : Option (Rz α)} {k : α → Option (Rz β)} {r : Rz β} (e : zb x k = some r) : ∃ z, x = some z ∧ z.bd k = some r := Option.bind_eq_some_iff.1 e
theorem bd_ok {α β : Type} {a : α} {k : α → Option (Rz β)} {r : Rz β} (e : (Rz.ok a).bd k = some r) : k a = some r := e
theorem bd_stop {α β : Type} {c p : Int} {k : α → Option (Rz β)} {r : Rz β} (e : (Rz.stop c p : Rz α).bd k = some r) : Rz.stop c p = r := Option.some.inj e
theorem cs_ok {α β : Type} {a : α} {k : α → β} {g : Int → Int → β} {r : β} (e : (Rz.ok a).cs k g = r) : k a = r := e
theorem cs_stop {α β : Type} {c p : Int} {k : α → β} {g : Int → Int → β} {r : β} (e : (Rz.stop c p : Rz α).cs k g = r) : g c p = r := e

def haltv (HT : TypeId) (c p : Int) : AV := .iface HT (.agg [.int .i64 c, .int .i64 p])

def RetZ {α : Type} (HT : TypeId) (O : Heap) (tk : Nat) (z : Rz α) (P : α → AV → Nat → Prop) (out : Out) (O' : Heap) (tk' : Nat) : Prop := O' = O ∧ tk ≤ tk' ∧ match z with
 | .ok a => ∃ v, out = .ret v ∧ P a v tk'
 | .stop c p => out = .pan (haltv HT c p)

def RetVZ {α : Type} (HT : TypeId) (O : Heap) (x : ID) (tk : Nat) (z : Rz α) (P : α → AV → Obj → Nat → Prop) (PP : Obj → Prop) (out : Out) (O' : Heap) (tk' : Nat) : Prop := ∃ o', O' = upd O x o' ∧ tk ≤ tk' ∧ match z with
 | .ok a => ∃ v, out = .ret v ∧ P a v o' tk'
 | .stop c p => out = .pan (haltv HT c p) ∧ PP o'

def RetS (HT : TypeId) (O : Heap) (tk : Nat) (c p : Int) (out : Out) (O' : Heap) (tk' : Nat) : Prop := O' = O ∧ tk' = tk ∧ out = .pan (haltv HT c p)

section
variable {C : Ctx} {σ : St} {K KP : St → AV → Prop} {HT : TypeId} {α : Type} {z : Rz α}

theorem callK_retS {c p : Int} (h : KP ⟨σ.env, σ.l, σ.b, σ.O, σ.tk⟩ (haltv HT c p)) : CallK C σ K KP (RetS HT (C.heap σ) σ.tk c p) :=
 ⟨fun v O' tk' ⟨_, _, e⟩ => (by cases e), fun v O' tk' ⟨h1, h2, e⟩ => by cases e; exact ⟨⟨σ.env, σ.l, σ.b, σ.O, σ.tk⟩, rfl, h1.symm, h2.symm, rfl, h⟩, fun ob O' tk' ⟨_, _, e⟩ => (by cases e)⟩

theorem callK_retZ {P : α → AV → Nat → Prop} (h : ∀ a v tk', z = .ok a → σ.tk ≤ tk' → P a v tk' → K ⟨σ.env, σ.l, σ.b, σ.O, tk'⟩ v)
  (hp : ∀ c p tk', z = .stop c p → σ.tk ≤ tk' → KP ⟨σ.env, σ.l, σ.b, σ.O, tk'⟩ (haltv HT c p)) : CallK C σ K KP (RetZ HT (C.heap σ) σ.tk z P) := by
 refine ⟨fun v O' tk' ⟨h1, h2, h3⟩ => ?_, fun v O' tk' ⟨h1, h2, h3⟩ => ?_, fun ob O' tk' ⟨h1, h2, h3⟩ => ?_⟩
 ·cases z with
  | ok a => obtain ⟨v', e, h4⟩ := h3; cases e; exact ⟨⟨σ.env, σ.l, σ.b, σ.O, tk'⟩, rfl, h1.symm, rfl, rfl, h _ _ _ rfl h2 h4⟩
  | stop c p => cases h3
 ·cases z with
  | ok a => obtain ⟨v', e, h4⟩ := h3; cases e
  | stop c p => cases h3; exact ⟨⟨σ.env, σ.l, σ.b, σ.O, tk'⟩, rfl, h1.symm, rfl, rfl, hp _ _ _ rfl h2⟩
 cases z with
 | ok a => obtain ⟨v', e, h4⟩ := h3; cases e
 | stop c p => cases h3

end

theorem Bor.cons {O : Heap} {x : ID} {o : Obj} {bor : List ID} {b : List Obj} (h : O x = some o) (hb : o.box = true) (hne : x ∉ bor) (t : Bor O bor b) : Bor O (x :: bor) (o :: b) :=
 ⟨by simp [t.len], List.nodup_cons.2 ⟨hne, t.nd⟩, fun k y hk => by
  cases k with
  | zero => cases hk; exact ⟨o, rfl, h, hb⟩
  | succ k => exact t.at_ k y hk⟩

inductive EntL (bor : List ID) : List AV → List AV → Prop
 | nil : EntL bor [] []
 | cons {x y xs ys} (h : Ent bor x y) (t : EntL bor xs ys) : EntL bor (x :: xs) (y :: ys)

theorem EntL.len {bor : List ID} {a b : List AV} (h : EntL bor a b) : a.length = b.length := by
 induction h with
 | nil => rfl
 | cons _ _ ih => simp [ih]
theorem EntL.at_ {bor : List ID} {a b : List AV} (h : EntL bor a b) : ∀ (j : Nat) (x y : AV), a[j]? = some x → b[j]? = some y → Ent bor x y := by
 induction h with
 | nil => intro j x y h; simp at h
 | cons h _ ih =>
  intro j x y hx hy
  cases j with
  | zero => cases hx; cases hy; exact h
  | succ j => exact ih j x y hx hy
theorem ent_fnL {bor : List ID} {f : Fn} {a b : List AV} (h : EntL bor a b) : Ent bor (.fn f [] a) (.fn f [] b) :=
 .fn f [] a [] b rfl h.len (fun j x y hx => by simp at hx) h.at_

theorem at_enter {P : Program} {nt : Nat} {args : List AV} (bor : List ID) (b : List Obj) (env : List (Nat × AV)) (henv : EntEnv bor 0 args env) (hlen : args.length ≤ nt) (hbt : ∀ x ∈ bor, x ∈ tch args)
  (S : Sit) (hbor : Bor S.O bor b) (us : Array Value) (hs : SimH S) (hinv : Inv S.B0 S.w) (hfz : ∀ x ∈ tch args, S.fz x = false) (hus : us.size = args.length) (harg : ∀ j v, args[j]? = some v → Arg S v (us.getD j undef)) :
  At ⟨P, S, nt, bor, fun _ => False, []⟩ ⟨env, [], b, S.O, S.tk⟩ { tmps := us ++ Array.replicate (nt - us.size) undef, defers := [] } S.w (inner S bor b) := by
 have hOB : OB bor b S.O = S.O := out_same hbor
 refine ⟨rfl, rfl, rfl, inner_sim hs hbor, fun i v' hv' => ?_, (by show (us ++ Array.replicate (nt - us.size) undef).size = nt; simp; omega), rfl, ?_, fun i hi => by simp [look] at hi, hbor.len, hbor.nd, fun i x hx => ?_, hs, fun i => rfl, fun x sz hx => ?_, fun x hx => ?_, fun x hx => hfz x (hbt x hx), hinv⟩
 ·obtain ⟨j, v, hj, hv, he⟩ := henv.get i v' hv'
  rw [Nat.zero_add] at hj
  subst hj
  have hlt : i < us.size := by rw [hus]; exact (List.getElem?_eq_some_iff.1 hv).1
  refine ⟨us.getD i undef, ?_, ent_in hs hbor he (.inl (harg i v hv))⟩
  rw [Array.getElem?_append_left hlt]
  simp [Array.getD, hlt]
 ·have : outer (inner S bor b) (Ctx.out ⟨P, S, nt, bor, fun _ => False, []⟩ ⟨env, [], b, S.O, S.tk⟩) S.hid S.fz = S := by
   show outer (inner S bor b) (OB bor b S.O) S.hid S.fz = S
   rw [hOB]
   rfl
  show ExtT _ S (outer (inner S bor b) (Ctx.out ⟨P, S, nt, bor, fun _ => False, []⟩ ⟨env, [], b, S.O, S.tk⟩) S.hid S.fz)
  rw [this]
  exact (Ext.refl S).toT
 ·show (inner S bor b).β (.bor i) = S.β x
  have hx' : bor[i]? = some x := hx
  simp [inner, hx']
 ·have hx' : (if x ∈ bor then (S.O x).map (·.sz) else S.hid x) = some sz := hx
  split at hx'
  ·rename_i hm
   obtain ⟨o, ho, rfl⟩ := Option.map_eq_some_iff.1 hx'
   exact .inl ⟨hm, o, ho, rfl⟩
  exact .inr hx'
 show (if x ∈ bor then (S.O x).map (·.sz) else S.hid x).isSome = true
 by_cases hm : x ∈ bor
 ·rw [if_pos hm]
  obtain ⟨k, hk⟩ := List.mem_iff_getElem?.1 hm
  obtain ⟨o, _, ho, _⟩ := hbor.at_ k x hk
  rw [ho]; rfl
 rw [if_neg hm]
 exact hx.resolve_left hm

inductive JnkL : List AV → List AV → Prop
 | nil : JnkL [] []
 | keep {x a b} (t : JnkL a b) : JnkL (x :: a) (x :: b)
 | jnk {x a b} (t : JnkL a b) : JnkL (x :: a) (.jnk :: b)
theorem JnkL.len {a b : List AV} (h : JnkL a b) : b.length = a.length := by
 induction h with
 | nil => rfl
 | keep _ ih => simp [ih]
 | jnk _ ih => simp [ih]
theorem JnkL.at_ {a b : List AV} (h : JnkL a b) : ∀ (j : Nat) (y : AV), b[j]? = some y → ∃ x, a[j]? = some x ∧ (y = x ∨ y = .jnk) := by
 induction h with
 | nil => intro j y h; simp at h
 | keep _ ih =>
  intro j y hy
  cases j with
  | zero => cases hy; exact ⟨_, rfl, .inl rfl⟩
  | succ j => exact ih j y hy
 | jnk _ ih =>
  intro j y hy
  cases j with
  | zero => cases hy; exact ⟨_, rfl, .inr rfl⟩
  | succ j => exact ih j y hy

theorem Sub.jnk {C : Ctx} {σ : St} {k : Nat} {ty : TypeId} {sz : Nat} {cs cs' : List AV} (hk : look k σ.l = some ⟨ty, sz, true, [cs]⟩) (hj : JnkL cs cs') : Sub C σ ⟨σ.env, setl k ⟨ty, sz, true, [cs']⟩ σ.l, σ.b, σ.O, σ.tk⟩ := by
 intro a w S h
 have hwS := h.w
 subst hwS
 have hx : S.O (.loc k) = some ⟨ty, sz, true, [cs]⟩ := by rw [h.O]; exact hk
 obtain ⟨cur, q1, q2, q3, q4, q5⟩ := h.sim.obj _ _ hx
 obtain ⟨hsim, hmov, hnew⟩ := Sit.set h.sim hx ⟨ty, sz, true, [cs']⟩ rfl rfl rfl rfl cur cur q1 rfl (fun e he => by
   simp only [List.mem_singleton] at he
   subst he
   rw [hj.len]; exact q4 cs (List.mem_singleton.2 rfl)) (fun i e j v hi hjv => by
   have h0 : i = 0 := by have := (List.getElem?_eq_some_iff.1 hi).1; simp at this; omega
   subst h0
   cases hi
   obtain ⟨x, hx1, hx2⟩ := hj.at_ j v hjv
   obtain ⟨s1, u, s2, s3, s4⟩ := q5 0 cs j x rfl hx1
   rcases hx2 with rfl | rfl
   ·exact ⟨s1, u, s2, s3, fun h => by cases h⟩
   exact ⟨rfl, u, s2, .jnk _ (d1_one s3 s1), fun h => by cases h⟩) _ rfl
 have hrow : S.w.setRow (S.β (.loc k)) cur = S.w := setRow_self S.w _ cur _ _ q1
 rw [hrow] at hsim hmov
 have hOeq : (fun z => if z = ID.loc k then some (⟨ty, sz, true, [cs']⟩ : Obj) else S.O z) = C.heap ⟨σ.env, setl k ⟨ty, sz, true, [cs']⟩ σ.l, σ.b, σ.O, σ.tk⟩ := by
  funext z
  rw [h.O]
  cases z with
  | loc i =>
   show _ = look i (setl k _ σ.l)
   rw [look_setl (by rw [hk]; rfl) i]
   by_cases hi : i = k
   ·subst hi; simp
   rw [if_neg hi, if_neg (fun e => hi (by cases e; rfl))]; rfl
  | bor i => rw [if_neg (fun e => by cases e)]; rfl
  | up z => rw [if_neg (fun e => by cases e)]; rfl
 refine ⟨{ S with O := fun z => if z = .loc k then some ⟨ty, sz, true, [cs']⟩ else S.O z }, ⟨rfl, hOeq, h.tk, hsim, fun i v hv => ?_, h.nt, h.defers, ?_, fun i hi => h.new i ?_, h.bl, h.nd, h.bb, h.h0, h.hl, h.hu, h.hv, h.hf, h.inv⟩, rfl, rfl⟩
 ·obtain ⟨u, hu, hr⟩ := h.env i v hv
  exact ⟨u, hu, hr.mov0 hmov⟩
 ·refine h.ext.own rfl rfl rfl rfl (Nat.le_refl _) (fun _ _ => rfl) rfl rfl rfl hmov.size (fun x o hx => h.h0.lt hx) (fun b hb => rfl) (fun t h1 h2 => absurd h1 (Nat.not_le_of_lt h2))
 by_cases hik : i = k
 ·subst hik; rw [hk]; rfl
 rw [look_setl (by rw [hk]; rfl) i, if_neg hik] at hi; exact hi

theorem merge_same {l : List (Nat × Obj)} {bor : List ID} {b : List Obj} {O : Heap} {k : Nat} {o' : Obj} (hk : k < b.length) (hup : o'.up = o') : upd (merge l bor b O) (.bor k) o' = merge l bor (b.set k o') O := by
 funext z
 cases z with
 | loc i => unfold upd; rw [if_neg (fun e => by cases e)]; rfl
 | bor i =>
  show upd _ _ _ (.bor i) = ((b.set k o')[i]?).map Obj.up
  unfold upd
  by_cases hi : i = k
  ·subst hi; simp [hk, hup]
  rw [if_neg (fun e => hi (by cases e; rfl)), List.getElem?_set_ne (Ne.symm hi)]; rfl
 | up z => unfold upd; rw [if_neg (fun e => by cases e)]; rfl

theorem OB_set {bor : List ID} : ∀ {b : List Obj} {O : Heap} {j : Nat} {x : ID} {o' : Obj}, bor.Nodup → b.length = bor.length → bor[j]? = some x → OB bor (b.set j o') O = upd (OB bor b O) x o' := by
 induction bor with
 | nil => intro b O j x o' _ _ h; simp at h
 | cons y bor ih =>
  intro b O j x o' hnd hl h
  cases b with
  | nil => simp at hl
  | cons p b =>
   cases j with
   | zero =>
    cases h
    show upd (OB bor b O) y o' = upd (upd (OB bor b O) y p) y o'
    funext z; unfold upd; split <;> rfl
   | succ j =>
    have hx : bor[j]? = some x := h
    have hne : x ≠ y := fun e => by subst e; exact (List.nodup_cons.1 hnd).1 (List.mem_of_getElem? hx)
    show upd (OB bor (b.set j o') O) y p = upd (upd (OB bor b O) y p) x o'
    rw [ih (List.nodup_cons.1 hnd).2 (by simpa using hl) hx]
    funext z
    unfold upd
    by_cases h1 : z = y
    ·subst h1; rw [if_pos rfl, if_neg (Ne.symm hne), if_pos rfl]
    rw [if_neg h1]
    by_cases h2 : z = x
    ·rw [if_pos h2, if_pos h2]
    rw [if_neg h2, if_neg h2, if_neg h1]

theorem Fr.left {lo hi : Nat} {a b : List Nat} (h : Fr lo hi (a ++ b)) : Fr lo hi a := ⟨(List.nodup_append.1 h.1).1, fun x hx => h.2 x (List.mem_append.2 (.inl hx))⟩
theorem Fr.right {lo hi : Nat} {a b : List Nat} (h : Fr lo hi (a ++ b)) : Fr lo hi b := ⟨(List.nodup_append.1 h.1).2.1, fun x hx => h.2 x (List.mem_append.2 (.inr hx))⟩

end Go.Am
