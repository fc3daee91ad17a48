/- Calls that may stop; a function's entry with deferred calls about; several pointers. -/
import Derived.Test.YtpkeophkdemcpaaMi2
import Derived.Defers
import Derived.Laws.Slices
import Derived.Laws.CopyRow
namespace Go.Am
open Go

inductive Rz (α : Type) where
 | ok (a : α)
 | stop (c p : Int)

def Rz.bd {α β : Type} (z : Rz α) (k : α → Option (Rz β)) : Option (Rz β) := match z with
 | .ok a => k a
 | .stop c p => some (.stop c p)
def Rz.cs {α β : Type} (z : Rz α) (k : α → β) (g : Int → Int → β) : β := match z with
 | .ok a => k a
 | .stop c p => g c p
def zb {α β : Type} (x : Option (Rz α)) (k : α → Option (Rz β)) : Option (Rz β) := x.bind fun z => z.bd k
theorem zb_t {α β : Type} {x : Option (Rz α)} {k : α → Option (Rz β)} {r : Rz β} (e : zb x k = some r) : ∃ z, x = some z ∧ z.bd k = some r := Option.bind_eq_some_iff.1 e
theorem bd_ok {α β : Type} {a : α} {k : α → Option (Rz β)} {r : Rz β} (e : (Rz.ok a).bd k = some r) : k a = some r := e
theorem bd_stop {α β : Type} {c p : Int} {k : α → Option (Rz β)} {r : Rz β} (e : (Rz.stop c p : Rz α).bd k = some r) : Rz.stop c p = r := Option.some.inj e
theorem cs_ok {α β : Type} {a : α} {k : α → β} {g : Int → Int → β} {r : β} (e : (Rz.ok a).cs k g = r) : k a = r := e
theorem cs_stop {α β : Type} {c p : Int} {k : α → β} {g : Int → Int → β} {r : β} (e : (Rz.stop c p : Rz α).cs k g = r) : g c p = r := e

def haltv (HT : TypeId) (c p : Int) : AV := .iface HT (.agg [.int .i64 c, .int .i64 p])

def RetZ {α : Type} (HT : TypeId) (O : Heap) (tk : Nat) (z : Rz α) (P : α → AV → Nat → Prop) (out : Out) (O' : Heap) (tk' : Nat) : Prop := O' = O ∧ tk ≤ tk' ∧ match z with
 | .ok a => ∃ v, out = .ret v ∧ P a v tk'
 | .stop c p => out = .pan (haltv HT c p)

def RetVZ {α : Type} (HT : TypeId) (O : Heap) (x : ID) (tk : Nat) (z : Rz α) (P : α → AV → Obj → Nat → Prop) (PP : Obj → Prop) (out : Out) (O' : Heap) (tk' : Nat) : Prop := ∃ o', O' = upd O x o' ∧ tk ≤ tk' ∧ match z with
 | .ok a => ∃ v, out = .ret v ∧ P a v o' tk'
 | .stop c p => out = .pan (haltv HT c p) ∧ PP o'

def RetS (HT : TypeId) (O : Heap) (tk : Nat) (c p : Int) (out : Out) (O' : Heap) (tk' : Nat) : Prop := O' = O ∧ tk' = tk ∧ out = .pan (haltv HT c p)

section
variable {C : Ctx} {σ : St} {K KP : St → AV → Prop} {HT : TypeId} {α : Type} {z : Rz α}

theorem callK_retS {c p : Int} (h : KP ⟨σ.env, σ.l, σ.b, σ.O, σ.tk⟩ (haltv HT c p)) : CallK C σ K KP (RetS HT (C.heap σ) σ.tk c p) :=
 ⟨fun v O' tk' ⟨_, _, e⟩ => (by cases e), fun v O' tk' ⟨h1, h2, e⟩ => by cases e; exact ⟨⟨σ.env, σ.l, σ.b, σ.O, σ.tk⟩, rfl, h1.symm, h2.symm, rfl, h⟩, fun ob O' tk' ⟨_, _, e⟩ => (by cases e)⟩

theorem callK_retZ {P : α → AV → Nat → Prop} (h : ∀ a v tk', z = .ok a → σ.tk ≤ tk' → P a v tk' → K ⟨σ.env, σ.l, σ.b, σ.O, tk'⟩ v)
  (hp : ∀ c p tk', z = .stop c p → σ.tk ≤ tk' → KP ⟨σ.env, σ.l, σ.b, σ.O, tk'⟩ (haltv HT c p)) : CallK C σ K KP (RetZ HT (C.heap σ) σ.tk z P) := by
 refine ⟨fun v O' tk' ⟨h1, h2, h3⟩ => ?_, fun v O' tk' ⟨h1, h2, h3⟩ => ?_, fun ob O' tk' ⟨h1, h2, h3⟩ => ?_⟩
 ·cases z with
  | ok a => obtain ⟨v', e, h4⟩ := h3; cases e; exact ⟨⟨σ.env, σ.l, σ.b, σ.O, tk'⟩, rfl, h1.symm, rfl, rfl, h _ _ _ rfl h2 h4⟩
  | stop c p => cases h3
 ·cases z with
  | ok a => obtain ⟨v', e, h4⟩ := h3; cases e
  | stop c p => cases h3; exact ⟨⟨σ.env, σ.l, σ.b, σ.O, tk'⟩, rfl, h1.symm, rfl, rfl, hp _ _ _ rfl h2⟩
 cases z with
 | ok a => obtain ⟨v', e, h4⟩ := h3; cases e
 | stop c p => cases h3

end

theorem Bor.cons {O : Heap} {x : ID} {o : Obj} {bor : List ID} {b : List Obj} (h : O x = some o) (hb : o.box = true) (hne : x ∉ bor) (t : Bor O bor b) : Bor O (x :: bor) (o :: b) :=
 ⟨by simp [t.len], List.nodup_cons.2 ⟨hne, t.nd⟩, fun k y hk => by
  cases k with
  | zero => cases hk; exact ⟨o, rfl, h, hb⟩
  | succ k => exact t.at_ k y hk⟩

inductive EntL (bor : List ID) : List AV → List AV → Prop
 | nil : EntL bor [] []
 | cons {x y xs ys} (h : Ent bor x y) (t : EntL bor xs ys) : EntL bor (x :: xs) (y :: ys)

theorem EntL.len {bor : List ID} {a b : List AV} (h : EntL bor a b) : a.length = b.length := by
 induction h with
 | nil => rfl
 | cons _ _ ih => simp [ih]
theorem EntL.at_ {bor : List ID} {a b : List AV} (h : EntL bor a b) : ∀ (j : Nat) (x y : AV), a[j]? = some x → b[j]? = some y → Ent bor x y := by
 induction h with
 | nil => intro j x y h; simp at h
 | cons h _ ih =>
  intro j x y hx hy
  cases j with
  | zero => cases hx; cases hy; exact h
  | succ j => exact ih j x y hx hy
theorem ent_fnL {bor : List ID} {f : Fn} {a b : List AV} (h : EntL bor a b) : Ent bor (.fn f [] a) (.fn f [] b) :=
 .fn f [] a [] b rfl h.len (fun j x y hx => by simp at hx) h.at_

theorem at_enter {P : Program} {nt : Nat} {args : List AV} (bor : List ID) (b : List Obj) (env : List (Nat × AV)) (henv : EntEnv bor 0 args env) (hlen : args.length ≤ nt) (hbt : ∀ x ∈ bor, x ∈ tch args)
  (S : Sit) (hbor : Bor S.O bor b) (us : Array Value) (hs : SimH S) (hinv : Inv S.B0 S.w) (hfz : ∀ x ∈ tch args, S.fz x = false) (hus : us.size = args.length) (harg : ∀ j v, args[j]? = some v → Arg S v (us.getD j undef)) :
  At ⟨P, S, nt, bor, fun _ => False, []⟩ ⟨env, [], b, S.O, S.tk⟩ { tmps := us ++ Array.replicate (nt - us.size) undef, defers := [] } S.w (inner S bor b) := by
 have hOB : OB bor b S.O = S.O := out_same hbor
 refine ⟨rfl, rfl, rfl, inner_sim hs hbor, fun i v' hv' => ?_, (by show (us ++ Array.replicate (nt - us.size) undef).size = nt; simp; omega), rfl, ?_, fun i hi => by simp [look] at hi, hbor.len, hbor.nd, fun i x hx => ?_, hs, fun i => rfl, fun x sz hx => ?_, fun x hx => ?_, fun x hx => hfz x (hbt x hx), hinv⟩
 ·obtain ⟨j, v, hj, hv, he⟩ := henv.get i v' hv'
  rw [Nat.zero_add] at hj
  subst hj
  have hlt : i < us.size := by rw [hus]; exact (List.getElem?_eq_some_iff.1 hv).1
  refine ⟨us.getD i undef, ?_, ent_in hs hbor he (.inl (harg i v hv))⟩
  rw [Array.getElem?_append_left hlt]
  simp [Array.getD, hlt]
 ·have : outer (inner S bor b) (Ctx.out ⟨P, S, nt, bor, fun _ => False, []⟩ ⟨env, [], b, S.O, S.tk⟩) S.hid S.fz = S := by
   show outer (inner S bor b) (OB bor b S.O) S.hid S.fz = S
   rw [hOB]
   rfl
  show ExtT _ S (outer (inner S bor b) (Ctx.out ⟨P, S, nt, bor, fun _ => False, []⟩ ⟨env, [], b, S.O, S.tk⟩) S.hid S.fz)
  rw [this]
  exact (Ext.refl S).toT
 ·show (inner S bor b).β (.bor i) = S.β x
  have hx' : bor[i]? = some x := hx
  simp [inner, hx']
 ·have hx' : (if x ∈ bor then (S.O x).map (·.sz) else S.hid x) = some sz := hx
  split at hx'
  ·rename_i hm
   obtain ⟨o, ho, rfl⟩ := Option.map_eq_some_iff.1 hx'
   exact .inl ⟨hm, o, ho, rfl⟩
  exact .inr hx'
 show (if x ∈ bor then (S.O x).map (·.sz) else S.hid x).isSome = true
 by_cases hm : x ∈ bor
 ·rw [if_pos hm]
  obtain ⟨k, hk⟩ := List.mem_iff_getElem?.1 hm
  obtain ⟨o, _, ho, _⟩ := hbor.at_ k x hk
  rw [ho]; rfl
 rw [if_neg hm]
 exact hx.resolve_left hm

theorem appendFM_step {C : Ctx} {Γ : TTab} (hG : GOK C.P Γ) {σ : St} {op : Oper} {T e : TypeId} {x y : Operand} (ho : op.op = .call { callee := .builtin .append, args := #[x, y], argTypes := #[T, T] })
  {i ie : TI} (hT : look T Γ = some i) (hd : i.desc = .slice e) (he : look e Γ = some ie) {d : Nat} (hfree : look d σ.l = none) {tok sz : Nat} {es : List (List AV)} {q : AV} {es2 : List (List AV)}
  (hx : oev σ.env x = some (.imm tok sz true es)) (hy : oev σ.env y = some q) (hes : ∀ e ∈ es, e.length = ie.size) (hq : elems σ q = some es2) (hes2 : ∀ e ∈ es2, e.length = ie.size) {m n : Nat} (l1 : es.length = m) (l2 : es2.length = n) (hn : 0 < n)
  (hlen : m + n ≤ 1099511627776) (hby : ie.bytes ≤ 128) {es' : List (List AV)} (he' : es ++ es2 = es') :
  Step C [] op σ (.osl (.loc d)) ⟨σ.env, (d, ⟨e, ie.size, false, es'⟩) :: σ.l, σ.b, σ.O, σ.tk⟩ := by
 subst l1
 subst l2
 subst he'
 refine appendFull_step hG ho hT hd he hfree hx hy hes hq hes2 (by intro h; rw [h] at hn; simp at hn) ?_ (by omega)
 exact Nat.le_trans (Nat.mul_le_mul hlen hby) (by decide)

theorem imm_sub {S : Sit} {tok sz : Nat} {full : Bool} {es : List (List AV)} {u : Value} (h : RepC S (.imm tok sz full es) u) : ∃ a c, u = .slice a es.length c ∧ es.length ≤ c ∧ (full = true → c = es.length) ∧ ∀ l h m, l ≤ h → h ≤ es.length → h ≤ m → m ≤ c → ∀ full', (full' = true → m = h) →
  RepC S (.imm 1 sz full' ((es.take h).drop l)) (sliced a l h m sz) := by
 have key : ∀ (a : Option Addr) (c : Nat) (hc : c ≤ maxLen) (l h m : Nat), l ≤ h → h ≤ es.length → h ≤ m → m ≤ c → ∀ full', (full' = true → m = h) → l = h → RepC S (.imm 1 sz full' ((es.take h).drop l)) (sliced a l h m sz) := by
  intro a c hc l h m h1 h2 h3 h4 full' hf e
  subst e
  rw [List.drop_of_length_le (by simp [List.length_take]; omega)]
  unfold sliced
  rw [Nat.sub_self]
  exact .imm0 _ _ _ _ _ (fun q => by have := hf q; omega) (by omega)
 cases h with
 | imm0 _ _ _ a c hf hm =>
  refine ⟨a, c, rfl, Nat.zero_le _, fun h => hf h, fun l h m h1 h2 h3 h4 full' hf' => ?_⟩
  have : h = 0 := by simpa using h2
  exact key a c hm l h m h1 h2 h3 h4 full' hf' (by omega)
 | imm _ _ _ _ b o c us hne hc hl hm hf ht h0 hsz hs g1 g2 =>
  refine ⟨_, c, rfl, hl, hf, fun l h m h1 h2 h3 h4 full' hf' => ?_⟩
  by_cases e : l = h
  ·exact key _ c hm l h m h1 h2 h3 h4 full' hf' e
  have hlen : ((es.take h).drop l).length = h - l := by simp [List.length_take]; omega
  have hget : ∀ (i : Nat) (e : List AV), ((es.take h).drop l)[i]? = some e → es[l + i]? = some e := by
   intro i e hi
   rw [List.getElem?_drop, List.getElem?_take] at hi
   split at hi
   ·exact hi
   cases hi
  unfold sliced
  rw [if_neg (by omega)]
  show RepC S _ (.slice (some ((⟨b, o, none⟩ : Addr).add (l * sz))) (h - l) (m - l))
  rw [add_off, ← hlen]
  refine .imm _ _ _ _ b (o + l * sz) (m - l) (fun i j => us (l + i) j) (by intro q; rw [q] at hlen; simp at hlen; omega) hc (by rw [hlen]; omega) (by omega) (fun q => by rw [hlen, hf' q]) (fun h => by omega) (fun h => by omega)
   (fun e he => hsz e (List.mem_of_mem_take (List.mem_of_mem_drop he))) (fun i e j x hi hj => hs (l + i) e j x (hget i e hi) hj) (fun i e j x hi hj => ?_) (fun i e j x hi hj => g2 (l + i) e j x (hget i e hi) hj)
  have := g1 (l + i) e j x (hget i e hi) hj
  rw [show o + l * sz + (i * sz + j) = o + ((l + i) * sz + j) by rw [Nat.add_mul]; omega]
  exact this

theorem clip_step {C : Ctx} {Γ : TTab} (hG : GOK C.P Γ) {σ : St} {op : Oper} {T e : TypeId} {x y z : Operand} (ho : op.op = .slice T x none (some y) (some z))
  {i ie : TI} (hT : look T Γ = some i) (hd : i.desc = .slice e) (he : look e Γ = some ie) {tok sz : Nat} {full : Bool} {es : List (List AV)} (hx : oev σ.env x = some (.imm tok sz full es)) (hsz : sz = ie.size) {k k' : IntKind} {m : Nat} (hm : es.length = m)
  (hy : oev σ.env y = some (.int k m)) (hz : oev σ.env z = some (.int k' m)) : Pu C op σ (.imm 1 sz true es) := by
 subst hm
 subst hsz
 intro a w S hat
 have hU := (hG T i hT).und
 rw [hd] at hU
 obtain ⟨hel, hU'⟩ := elem_of hU
 obtain ⟨ad, c, hu, hl, _, hsub⟩ := imm_sub (rep_imm (oev_rep hat hx))
 have uy := rep_int (oev_rep hat hy)
 have uz := rep_int (oev_rep hat hz)
 refine ⟨sliced ad 0 es.length es.length ie.size, fun w1 => ?_, .clo ?_⟩
 ·unfold execOp
  have hrun := run_slice_hm w1 T ad es.length c hU' k k' (es.length : Int) (es.length : Int) (by omega) (by omega) (by omega)
  rw [hel, sizeOf_run (hG e ie he)] at hrun
  simp only [ho, hu, uy, uz, Sem.run_bind, Option.map_some, Option.map_none, run_sliceAt_slice w1 T _ _ _ _ hU', hrun, Result.andThen_ok, Sem.run_pure, Int.toNat_natCast]
 have := hsub 0 es.length es.length (Nat.zero_le _) (Nat.le_refl _) (Nat.le_refl _) hl true (fun _ => rfl)
 simpa using this

theorem loop_mono {C : Ctx} {Q : AEx → St → Prop} {ks : List AItem} {σ : St} {c : Code} {J J' : St → Prop} (hj : ∀ σ, J σ → J' σ) (h : Run C Q (.code c :: .loop J :: ks) .normal σ) : Run C Q (.code c :: .loop J' :: ks) .normal σ := by
 intro a w S hat
 refine Code.wp_mono (QC.mono fun e σ hq => ?_) (h a w S hat)
 cases e with
 | normal => exact hj _ hq
 | exit id => exact hq
 | ret => exact hq
 | pan v => exact hq

theorem run_peel {C : Ctx} {Q : AEx → St → Prop} {ks : List AItem} {σ : St} {c : Code} (I : Nat → St → Prop) (n : Nat)
  (first : Run C Q (.code c :: .loop (fun σ' => ∃ m σ0, m ≤ n ∧ I m σ0 ∧ Sub C σ' σ0) :: ks) .normal σ)
  (round : ∀ n σ, I n σ → Run C Q (.code c :: .loop (fun σ' => ∃ m σ0, m < n ∧ I m σ0 ∧ Sub C σ' σ0) :: ks) .normal σ) :
  Run C Q (.code (.loop c) :: ks) .normal σ := by
 refine run_rounds (fun m σ' => (m = n + 1 ∧ σ' = σ) ∨ (m ≤ n ∧ I m σ')) (n + 1) (Sub.refl C σ) (.inl ⟨rfl, rfl⟩) (fun m σ' hI => ?_)
 rcases hI with ⟨rfl, rfl⟩ | ⟨hm, hI⟩
 ·exact loop_mono (fun σ'' ⟨m, σ0, h1, h2, h3⟩ => ⟨m, σ0, by omega, .inr ⟨h1, h2⟩, h3⟩) first
 exact loop_mono (fun σ'' ⟨m', σ0, h1, h2, h3⟩ => ⟨m', σ0, h1, .inr ⟨by omega, h2⟩, h3⟩) (round m σ' hI)

inductive JnkL : List AV → List AV → Prop
 | nil : JnkL [] []
 | keep {x a b} (t : JnkL a b) : JnkL (x :: a) (x :: b)
 | jnk {x a b} (t : JnkL a b) : JnkL (x :: a) (.jnk :: b)
theorem JnkL.len {a b : List AV} (h : JnkL a b) : b.length = a.length := by
 induction h with
 | nil => rfl
 | keep _ ih => simp [ih]
 | jnk _ ih => simp [ih]
theorem JnkL.at_ {a b : List AV} (h : JnkL a b) : ∀ (j : Nat) (y : AV), b[j]? = some y → ∃ x, a[j]? = some x ∧ (y = x ∨ y = .jnk) := by
 induction h with
 | nil => intro j y h; simp at h
 | keep _ ih =>
  intro j y hy
  cases j with
  | zero => cases hy; exact ⟨_, rfl, .inl rfl⟩
  | succ j => exact ih j y hy
 | jnk _ ih =>
  intro j y hy
  cases j with
  | zero => cases hy; exact ⟨_, rfl, .inr rfl⟩
  | succ j => exact ih j y hy

theorem Sub.jnk {C : Ctx} {σ : St} {k : Nat} {ty : TypeId} {sz : Nat} {cs cs' : List AV} (hk : look k σ.l = some ⟨ty, sz, true, [cs]⟩) (hj : JnkL cs cs') : Sub C σ ⟨σ.env, setl k ⟨ty, sz, true, [cs']⟩ σ.l, σ.b, σ.O, σ.tk⟩ := by
 intro a w S h
 have hwS := h.w
 subst hwS
 have hx : S.O (.loc k) = some ⟨ty, sz, true, [cs]⟩ := by rw [h.O]; exact hk
 obtain ⟨cur, q1, q2, q3, q4, q5⟩ := h.sim.obj _ _ hx
 obtain ⟨hsim, hmov, hnew⟩ := Sit.set h.sim hx ⟨ty, sz, true, [cs']⟩ rfl rfl rfl rfl cur cur q1 rfl (fun e he => by
   simp only [List.mem_singleton] at he
   subst he
   rw [hj.len]; exact q4 cs (List.mem_singleton.2 rfl)) (fun i e j v hi hjv => by
   have h0 : i = 0 := by have := (List.getElem?_eq_some_iff.1 hi).1; simp at this; omega
   subst h0
   cases hi
   obtain ⟨x, hx1, hx2⟩ := hj.at_ j v hjv
   obtain ⟨s1, u, s2, s3, s4⟩ := q5 0 cs j x rfl hx1
   rcases hx2 with rfl | rfl
   ·exact ⟨s1, u, s2, s3, fun h => by cases h⟩
   exact ⟨rfl, u, s2, .jnk _ (d1_one s3 s1), fun h => by cases h⟩) _ rfl
 have hrow : S.w.setRow (S.β (.loc k)) cur = S.w := setRow_self S.w _ cur _ _ q1
 rw [hrow] at hsim hmov
 have hOeq : (fun z => if z = ID.loc k then some (⟨ty, sz, true, [cs']⟩ : Obj) else S.O z) = C.heap ⟨σ.env, setl k ⟨ty, sz, true, [cs']⟩ σ.l, σ.b, σ.O, σ.tk⟩ := by
  funext z
  rw [h.O]
  cases z with
  | loc i =>
   show _ = look i (setl k _ σ.l)
   rw [look_setl (by rw [hk]; rfl) i]
   by_cases hi : i = k
   ·subst hi; simp
   rw [if_neg hi, if_neg (fun e => hi (by cases e; rfl))]; rfl
  | bor i => rw [if_neg (fun e => by cases e)]; rfl
  | up z => rw [if_neg (fun e => by cases e)]; rfl
 refine ⟨{ S with O := fun z => if z = .loc k then some ⟨ty, sz, true, [cs']⟩ else S.O z }, ⟨rfl, hOeq, h.tk, hsim, fun i v hv => ?_, h.nt, h.defers, ?_, fun i hi => h.new i ?_, h.bl, h.nd, h.bb, h.h0, h.hl, h.hu, h.hv, h.hf, h.inv⟩, rfl, rfl⟩
 ·obtain ⟨u, hu, hr⟩ := h.env i v hv
  exact ⟨u, hu, hr.mov0 hmov⟩
 ·refine h.ext.own rfl rfl rfl rfl (Nat.le_refl _) (fun _ _ => rfl) rfl rfl rfl hmov.size (fun x o hx => h.h0.lt hx) (fun b hb => rfl) (fun t h1 h2 => absurd h1 (Nat.not_le_of_lt h2))
 by_cases hik : i = k
 ·subst hik; rw [hk]; rfl
 rw [look_setl (by rw [hk]; rfl) i, if_neg hik] at hi; exact hi

theorem merge_same {l : List (Nat × Obj)} {bor : List ID} {b : List Obj} {O : Heap} {k : Nat} {o' : Obj} (hk : k < b.length) (hup : o'.up = o') : upd (merge l bor b O) (.bor k) o' = merge l bor (b.set k o') O := by
 funext z
 cases z with
 | loc i => unfold upd; rw [if_neg (fun e => by cases e)]; rfl
 | bor i =>
  show upd _ _ _ (.bor i) = ((b.set k o')[i]?).map Obj.up
  unfold upd
  by_cases hi : i = k
  ·subst hi; simp [hk, hup]
  rw [if_neg (fun e => hi (by cases e; rfl)), List.getElem?_set_ne (Ne.symm hi)]; rfl
 | up z => unfold upd; rw [if_neg (fun e => by cases e)]; rfl

theorem OB_set {bor : List ID} : ∀ {b : List Obj} {O : Heap} {j : Nat} {x : ID} {o' : Obj}, bor.Nodup → b.length = bor.length → bor[j]? = some x → OB bor (b.set j o') O = upd (OB bor b O) x o' := by
 induction bor with
 | nil => intro b O j x o' _ _ h; simp at h
 | cons y bor ih =>
  intro b O j x o' hnd hl h
  cases b with
  | nil => simp at hl
  | cons p b =>
   cases j with
   | zero =>
    cases h
    show upd (OB bor b O) y o' = upd (upd (OB bor b O) y p) y o'
    funext z; unfold upd; split <;> rfl
   | succ j =>
    have hx : bor[j]? = some x := h
    have hne : x ≠ y := fun e => by subst e; exact (List.nodup_cons.1 hnd).1 (List.mem_of_getElem? hx)
    show upd (OB bor (b.set j o') O) y p = upd (upd (OB bor b O) y p) x o'
    rw [ih (List.nodup_cons.1 hnd).2 (by simpa using hl) hx]
    funext z
    unfold upd
    by_cases h1 : z = y
    ·subst h1; rw [if_pos rfl, if_neg (Ne.symm hne), if_pos rfl]
    rw [if_neg h1]
    by_cases h2 : z = x
    ·rw [if_pos h2, if_pos h2]
    rw [if_neg h2, if_neg h2, if_neg h1]

theorem out_upd {bor : List ID} {b : List Obj} {O : Heap} {j : Nat} {x : ID} {o' : Obj} (h : Bor O bor b) (hj : bor[j]? = some x) : OB bor (b.set j o') O = upd O x o' := by
 rw [OB_set h.nd h.len hj, out_same h]

theorem build0_new {C : Ctx} {Γ : TTab} (hG : GOK C.P Γ) {σ : St} {op : Oper} {T e : TypeId} (ho : op.op = .buildSlice T 0 #[]) {i ie : TI} (hT : look T Γ = some i) (hd : i.desc = .slice e) (he : look e Γ = some ie) {d : Nat} (hfree : look d σ.l = none) {a : Act} {w : World} {S : Sit} (hat : At C σ a w S) :
  ∃ u w' S', (execOp a.eval op).run C.P w = .ok (.value u) w' ∧ At C ⟨σ.env, (d, ⟨e, ie.size, false, []⟩) :: σ.l, σ.b, σ.O, σ.tk⟩ a w' S' ∧ Rep S' (.osl (.loc d)) u ∧ KeepW S S' [] ∧ S.w.heap.size ≤ S'.β (.loc d) ∧ (S'.O (.loc d)).isSome = true := by
 have hwS := hat.w
 subst hwS
 have hU := (hG T i hT).und
 rw [hd] at hU
 have hE := hG e ie he
 obtain ⟨ti, z, z1, z2, z3, z4, z5, z6⟩ := zero_rep hE S
 obtain ⟨S', hat', hmov, hβ, hO⟩ := hat.add hfree ⟨e, ie.size, false, []⟩ #[] (by simp) (fun h => by cases h) (fun e he => by cases he) (fun i e j v hi => by simp at hi) _ (.inr rfl)
 refine ⟨.slice (some ⟨S.w.heap.size, 0, none⟩) 0 0, _, S', ?_, hat', ?_, keep_alloc hmov (.inl hat'.w), by rw [hβ]; exact Nat.le_refl _, by rw [hO]; rfl⟩
 ·unfold execOp
  simp [ho, Instr.buildSlice, run_underlying hU, sizeOf, typeInfo, z1, Instr.fill, newRow, Array.range_zero']
 have := Rep.osl (S := S') (.loc d) _ 0 _ hO rfl (by rw [hβ, hat'.w]; exact heap_alloc_new S.w _) (by simp) (by simp) (Nat.zero_le _)
 simpa [hβ] using this

theorem AOpN.build0 {C : Ctx} {all : Array Oper} {Q : AEx → St → Prop} {W : List ID} {fuel : Nat} {listed : Array Bool} {σ : St} {Γ : TTab} (hG : GOK C.P Γ) {i : Nat} {o : Oper} {d : Nat} (hi : all[i]? = some o) (hg : o.guard = none) (hd : o.dst = some d) (hn : d < C.nt) {T e : TypeId} (ho : o.op = .buildSlice T 0 #[])
  {ti ie : TI} (hT : look T Γ = some ti) (hds : ti.desc = .slice e) (he : look e Γ = some ie) (hfree : look d σ.l = none)
  (h : AAny C all Q (.loc d :: W) fuel (listed.setIfInBounds i true) (St.put ⟨σ.env, (d, ⟨e, ie.size, false, []⟩) :: σ.l, σ.b, σ.O, σ.tk⟩ d (.osl (.loc d)))) : AOpN C all Q W fuel listed i σ := by
 intro a w S hat hl
 obtain ⟨u, w', S', r1, e1, e2, e3, e4, e5⟩ := build0_new hG ho hT hds he hfree hat
 have hw := e1.w
 subst hw
 unfold wpOp
 simp only [hi, Region.wanted, hg, if_true]
 refine .inl ?_
 unfold Oper.wp
 rw [r1]
 simp only [Oper.upon, hd]
 have hreb : ∀ w1, Held S' (.loc d :: W) w1 → Held S W w1 := by
  intro w1 hw1
  refine ⟨Nat.le_trans e3.1.1 hw1.1, fun b hb hW => ?_⟩
  rw [hw1.2 b (Nat.lt_of_lt_of_le hb e3.1.1) ?_]
  ·exact e3.1.2 b hb fun x hm => by cases hm
  intro x hm e
  rcases List.mem_cons.1 hm with rfl | hm
  ·omega
  rcases (e3.2 x (hl x hm)).2 with q | q
  ·exact hW x hm (q ▸ e)
  omega
 refine ⟨e3.1.mono (fun _ h => by cases h), wpAnyH_rebase hreb _ _ _ _ (h _ _ S' (e1.put hn e2) fun x hm => ?_)⟩
 rcases List.mem_cons.1 hm with rfl | hm
 ·exact e5
 exact (e3.2 x (hl x hm)).1

theorem Fr.left {lo hi : Nat} {a b : List Nat} (h : Fr lo hi (a ++ b)) : Fr lo hi a := ⟨(List.nodup_append.1 h.1).1, fun x hx => h.2 x (List.mem_append.2 (.inl hx))⟩
theorem Fr.right {lo hi : Nat} {a b : List Nat} (h : Fr lo hi (a ++ b)) : Fr lo hi b := ⟨(List.nodup_append.1 h.1).2.1, fun x hx => h.2 x (List.mem_append.2 (.inr hx))⟩

end Go.Am
