/- The abstract memory logic, second part: abstract states, what runs from them, and the rules of control. -/
import Derived.Test.YtklchmkanhpeeaaAmA
namespace Go.Am
open Go

structure St where
  env : List (Nat × AV)
  l : List (Nat × Obj)
  b : List Obj
  O : Heap
  tk : Nat

def look {α : Type} (i : Nat) : List (Nat × α) → Option α
  | [] => none
  | (j, v) :: r => match Nat.beq i j with
    | true => some v
    | false => look i r

def upd (O : Heap) (x : ID) (o : Obj) : Heap := fun z => if z = x then some o else O z

/-- The objects by the names of the call. -/
def merge (l : List (Nat × Obj)) (bor : List ID) (b : List Obj) (O : Heap) : Heap
  | .loc i => look i l
  | .bor i => (b[i]?).map Obj.up
  | .up x => if x ∈ bor then none else (O x).map Obj.up

/-- The caller's objects by its own names. -/
def OB : List ID → List Obj → Heap → Heap
  | x :: xs, o :: os, O => upd (OB xs os O) x o
  | _, _, O => O

def outer (S : Sit) (O : Heap) (hid : ID → Option Nat) (fz : ID → Bool) : Sit := { S with β := fun x => S.β (.up x), O := O, hid := hid, fz := fz }

structure Ctx where
  P : Program
  S0 : Sit
  nt : Nat
  bor : List ID

def Ctx.heap (C : Ctx) (σ : St) : Heap := merge σ.l C.bor σ.b σ.O
def Ctx.out (C : Ctx) (σ : St) : Heap := OB C.bor σ.b σ.O

structure At (C : Ctx) (σ : St) (a : Act) (w : World) (S : Sit) : Prop where
  w : S.w = w
  O : S.O = C.heap σ
  tk : S.tk = σ.tk
  sim : SimH S
  env : ∀ i v, look i σ.env = some v → ∃ u, a.tmps[i]? = some u ∧ Rep S v u
  nt : a.tmps.size = C.nt
  defers : a.defers = []
  ext : Ext C.S0 (outer S (C.out σ) C.S0.hid C.S0.fz)
  new : ∀ i, (look i σ.l).isSome = true → C.S0.w.heap.size ≤ S.β (.loc i)
  bl : σ.b.length = C.bor.length
  nd : C.bor.Nodup
  bb : ∀ i x, C.bor[i]? = some x → S.β (.bor i) = S.β (.up x)
  h0 : SimH C.S0
  hl : ∀ i, S.hid (.loc i) = none
  hu : ∀ x sz, S.hid (.up x) = some sz → (x ∈ C.bor ∧ ∃ o0, C.S0.O x = some o0 ∧ o0.sz = sz) ∨ C.S0.hid x = some sz
  hv : ∀ x, (x ∈ C.bor ∨ (C.S0.hid x).isSome = true) → (S.hid (.up x)).isSome = true
  hf : ∀ x ∈ C.bor, C.S0.fz x = false

inductive AEx where
  | normal
  | exit (id : Nat)
  | ret
  | pan (v : AV)

def QC (C : Ctx) (Q : AEx → St → Prop) : Exit → Act → World → Prop
  | .normal, a, w => ∃ S σ, At C σ a w S ∧ Q .normal σ
  | .exit id, a, w => ∃ S σ, At C σ a w S ∧ Q (.exit id) σ
  | .ret, a, w => ∃ S σ, At C σ a w S ∧ Q .ret σ
  | .panic ch, a, w => ∃ S σ v u, σ.env = [] ∧ At C σ a w S ∧ ch = [{ v := u, recovered := false }] ∧ RepC S v u ∧ Q (.pan v) σ
  | _, _, _ => False

def AWp (C : Ctx) (c : Code) (Q : AEx → St → Prop) (σ : St) : Prop := ∀ a w S, At C σ a w S → c.wp C.P (QC C Q) a w
def AOps (C : Ctx) (all : Array Oper) (Q : AEx → St → Prop) (rest : List Oper) (σ : St) : Prop := ∀ a w S, At C σ a w S → wpList C.P all (QC C Q) rest a w

inductive AItem where
  | code (c : Code)
  | ops (all : Array Oper) (rest : List Oper)
  | blk (id : Nat)
  | loop (J : St → Prop)

def Run (C : Ctx) (Q : AEx → St → Prop) : List AItem → AEx → St → Prop
  | [], e, σ => Q e σ
  | .code c :: ks, .normal, σ => AWp C c (Run C Q ks) σ
  | .ops all rest :: ks, .normal, σ => AOps C all (Run C Q ks) rest σ
  | .loop J :: _, .normal, σ => J σ
  | .blk id :: ks, .exit id', σ => match Nat.beq id' id with
    | true => Run C Q ks .normal σ
    | false => Run C Q ks (.exit id') σ
  | _ :: ks, e, σ => Run C Q ks e σ

section
variable {C : Ctx} {Q : AEx → St → Prop} {ks : List AItem} {σ : St}

theorem QC.mono {Q Q' : AEx → St → Prop} (h : ∀ e σ, Q e σ → Q' e σ) : ∀ e a w, QC C Q e a w → QC C Q' e a w := by
  intro e a w hq
  cases e with
  | normal => obtain ⟨S, σ, h1, h2⟩ := hq; exact ⟨S, σ, h1, h _ _ h2⟩
  | exit id => obtain ⟨S, σ, h1, h2⟩ := hq; exact ⟨S, σ, h1, h _ _ h2⟩
  | ret => obtain ⟨S, σ, h1, h2⟩ := hq; exact ⟨S, σ, h1, h _ _ h2⟩
  | panic ch => obtain ⟨S, σ, v, u, h0, h1, h2, h3, h4⟩ := hq; exact ⟨S, σ, v, u, h0, h1, h2, h3, h _ _ h4⟩
  | goto l => exact hq
  | outgrown => exact hq

theorem AWp.mono {c : Code} {Q Q' : AEx → St → Prop} (h : ∀ e σ, Q e σ → Q' e σ) (k : AWp C c Q σ) : AWp C c Q' σ :=
  fun a w S hat => Code.wp_mono (QC.mono h) (k a w S hat)

theorem run_skip (h : Run C Q ks .normal σ) : Run C Q (.code .skip :: ks) .normal σ := fun _ _ S hat => wp_skip ⟨S, σ, hat, h⟩

theorem run_seq {x y : Code} (h : Run C Q (.code x :: .code y :: ks) .normal σ) : Run C Q (.code (.seq x y) :: ks) .normal σ := by
  intro a w S hat
  refine wp_seq (Code.wp_mono ?_ (h a w S hat))
  intro e a' w' hq
  cases e with
  | normal => obtain ⟨S, σ, h1, h2⟩ := hq; exact h2 _ _ _ h1
  | exit id => exact hq
  | ret => exact hq
  | panic ch => exact hq
  | goto l => exact hq
  | outgrown => exact hq

theorem run_cond {c : Operand} {x y : Code} {b : Bool} {i : Nat} (hc : c = .tmp i) (hv : look i σ.env = some (.bool b)) (h : Run C Q (.code (if b then x else y) :: ks) .normal σ) :
    Run C Q (.code (.cond c x y) :: ks) .normal σ := by
  intro a w S hat
  obtain ⟨u, hu, hr⟩ := hat.env i _ hv
  have hb : u = .bool b := by
    cases hr with
    | clo h => cases h; rfl
  subst hb
  refine wp_cond (t := b) ?_ (h a w S hat)
  subst hc
  simp [Act.eval, hu]

theorem run_block {id : Nat} {c : Code} (h : Run C Q (.code c :: .blk id :: ks) .normal σ) : Run C Q (.code (.block id c) :: ks) .normal σ := by
  intro a w S hat
  refine wp_block (Code.wp_mono ?_ (h a w S hat))
  intro e a' w' hq
  cases e with
  | normal => exact hq
  | exit id' =>
    obtain ⟨S, σ, h1, h2⟩ := hq
    simp only [Run] at h2
    by_cases he : id' = id
    · subst he
      simp only [Exit.inBlock, if_true]
      rw [show Nat.beq id' id' = true from Nat.beq_refl id'] at h2
      exact ⟨S, σ, h1, h2⟩
    · simp only [Exit.inBlock, if_neg he]
      rw [show Nat.beq id' id = false from by rw [← Bool.not_eq_true]; intro hh; exact he (Nat.eq_of_beq_eq_true hh)] at h2
      exact ⟨S, σ, h1, h2⟩
  | ret => exact hq
  | panic ch => exact hq
  | goto l => exact hq
  | outgrown => exact hq

theorem run_blk {id : Nat} (h : Run C Q ks .normal σ) : Run C Q (.blk id :: ks) .normal σ := h

theorem run_exit {id : Nat} (h : Run C Q ks (.exit id) σ) : Run C Q (.code (.exit id) :: ks) .normal σ := fun _ _ S hat => wp_exit ⟨S, σ, hat, h⟩

theorem run_ret (h : Run C Q ks .ret σ) : Run C Q (.code .ret :: ks) .normal σ := fun _ _ S hat => wp_ret ⟨S, σ, hat, h⟩

theorem run_region {id : Nat} {l : List Oper} (h : Run C Q (.ops l.toArray l :: ks) .normal σ) : Run C Q (.code (.region id l.toArray false) :: ks) .normal σ :=
  fun a w S hat => wp_region_lit (h a w S hat)

theorem run_ops_nil {all : Array Oper} (h : Run C Q ks .normal σ) : Run C Q (.ops all [] :: ks) .normal σ := fun _ _ S hat => ⟨S, σ, hat, h⟩

theorem run_loop_end {J : St → Prop} (h : J σ) : Run C Q (.loop J :: ks) .normal σ := h

/-- A loop: 'I n σ': the state at a round's head with n as its measure. -/
theorem run_loop {c : Code} (I : Nat → St → Prop) (n : Nat) (h0 : I n σ) (round : ∀ n σ, I n σ → Run C Q (.code c :: .loop (fun σ' => ∃ m, m < n ∧ I m σ') :: ks) .normal σ) :
    Run C Q (.code (.loop c) :: ks) .normal σ := by
  intro a w S hat
  -- the measure is the least number for which the state's description holds
  have key : ∀ a w, (∃ n S σ, At C σ a w S ∧ I n σ) → ∃ n, (∃ S σ, At C σ a w S ∧ I n σ) ∧ ∀ m, (∃ S σ, At C σ a w S ∧ I m σ) → n ≤ m := by
    intro a w h
    obtain ⟨n, hn⟩ := h
    induction n using Nat.strongRecOn with
    | _ n ih =>
      by_cases hlt : ∃ m, m < n ∧ ∃ S σ, At C σ a w S ∧ I m σ
      · obtain ⟨m, hm, hs⟩ := hlt; exact ih m hm hs
      · exact ⟨n, hn, fun m hm => Nat.le_of_not_lt fun hl => hlt ⟨m, hl, hm⟩⟩
  classical
  let μ : Act → World → Nat := fun a w => if h : ∃ n S σ, At C σ a w S ∧ I n σ then (key a w h).choose else 0
  refine wp_loop (fun a w => ∃ n S σ, At C σ a w S ∧ I n σ) μ ⟨n, S, σ, hat, h0⟩ ?_
  intro a w hI
  have hμ := (key a w hI).choose_spec
  obtain ⟨⟨S1, σ1, hat1, hI1⟩, hmin⟩ := hμ
  refine Code.wp_mono ?_ (round _ σ1 hI1 a w S1 hat1)
  intro e a' w' hq
  cases e with
  | normal =>
    obtain ⟨S2, σ2, hat2, m, hm, hI2⟩ := hq
    have hI' : ∃ n S σ, At C σ a' w' S ∧ I n σ := ⟨m, S2, σ2, hat2, hI2⟩
    refine ⟨hI', ?_⟩
    have h1 : μ a' w' = (key a' w' hI').choose := dif_pos hI'
    have h2 : μ a w = (key a w hI).choose := dif_pos hI
    rw [h1, h2]
    exact Nat.lt_of_le_of_lt ((key a' w' hI').choose_spec.2 m ⟨S2, σ2, hat2, hI2⟩) hm
  | exit id => exact hq
  | ret => exact hq
  | panic ch => exact hq
  | goto l => exact hq
  | outgrown => exact hq

/-- To forget. -/
theorem At.weaken {σ : St} {a : Act} {w : World} {S : Sit} (h : At C σ a w S) (env : List (Nat × AV))
    (he : ∀ i v, look i env = some v → look i σ.env = some v ∨ v = .any ∧ i < C.nt) : At C { σ with env := env } a w S :=
  ⟨h.w, h.O, h.tk, h.sim, fun i v hv => (he i v hv).elim (h.env i v) fun hq => ⟨a.tmps[i]'(by rw [h.nt]; exact hq.2), by simp [h.nt, hq.2], by cases hq.1; exact .any _⟩,
    h.nt, h.defers, h.ext, h.new, h.bl, h.nd, h.bb, h.h0, h.hl, h.hu, h.hv, h.hf⟩

end

end Go.Am
